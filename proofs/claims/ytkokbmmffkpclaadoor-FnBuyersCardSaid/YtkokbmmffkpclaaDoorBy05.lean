/- By05: the texts FactsN FactsR LotStA, joined into one file. -/
import Derived.Test.YtkokbmmffkpclaaDoorBy03
import Derived.Test.YtkokbmmffkpclaaDoorBy04

set_option linter.unusedVariables false

/- A region whose order is drawn: one fact on each operation, which may also speak of one operation that comes ahead; each operation has its own way to turn the world (T k). -/
namespace Go.Proofs.YtkokbmmffkpclaaDoor
open Go.RowKit

/-- A fact on an operation's value, and on the value of one that comes ahead of it. -/
structure FactN where
  D : Nat
  R : Value → Value → World → Prop
  Br : List Nat := []
def FactN.at (f : FactN) (vs : Nat → Value) (j : Nat) (w : World) : Prop := f.R (vs f.D) (vs j) w
/-- No other operation that may come behind it turns the fact. -/
def FactN.firm (ops : Array Oper) (T : Nat → World → World → Prop) (j : Nat) (f : FactN) : Prop := ∀ i, i ≠ j → i ∉ f.Br → ahead .any ops ops.size j i = false → ∀ u v w w', f.R u v w → T i w w' → f.R u v w'
/-- The fact still stands when operation k comes. -/
def FactN.live (ops : Array Oper) (k : Nat) (f : FactN) : Bool := f.Br.all fun i => i == k || ahead .any ops ops.size i k
def FactN.fine (ops : Array Oper) (j : Nat) (f : FactN) : Prop := (∀ u u' v w, f.R u v w → f.R u' v w) ∨ ahead .any ops ops.size j f.D = true
theorem FactN.eq {V : Value} {vs : Nat → Value} {j : Nat} {w : World} (h : FactN.at ⟨0, fun _ v _ => v = V, []⟩ vs j w) : vs j = V := h
/-- What has come up when operation k comes. -/
structure Gone (ops : Array Oper) (L : Nat → Bool) (k : Nat) : Prop where
  self : L k = false
  done : ∀ j, ahead .any ops ops.size k j = true → L j = true
  open_ : ∀ j, ahead .any ops ops.size j k = true → L j = false
def Listed.but (L : Nat → Bool) (k : Nat) : Nat → Bool := fun j => if j = k then true else L j
section
variable {P : Program} {ops : Array Oper} {Q : Exit → Act → World → Prop}

/-- The walk: a fact R on each operation's value; the facts of those that come ahead are at hand. -/
def wpFactsN (P : Program) (ops : Array Oper) (Q : Exit → Act → World → Prop) (C : (Nat → Bool) → World → Prop) (T : Nat → World → World → Prop) (fr : (Nat → Value) → Act) : Nat → List Oper → List FactN → Prop
  | _, [], Rs => ∀ vs L w, (∀ j, j < ops.size → L j = true) → C L w → (∀ (j : Nat) (R : FactN), R.Br = [] → Rs[j]? = some R → R.at vs j w) → Q .normal (fr vs) w
  | k, o :: l, Rs => ∃ R : FactN, R.fine ops k ∧ R.firm ops T k ∧
    (∀ vs L w, Gone ops L k → C L w → (∀ (j : Nat) (R' : FactN), ahead .any ops ops.size k j = true → R'.live ops k = true → Rs[j]? = some R' → R'.at vs j w) → ∀ K : Act → World → Prop, (∀ a' v w', a' = (fr vs).put o.dst v → R.R (vs R.D) v w' → C (Listed.but L k) w' → T k w w' → K a' w') →
      if Region.wanted o (yielded ops (fr vs).tmps) = true then o.wp P (fr vs) w K Q else K ((fr vs).put o.dst undef) w) ∧
    wpFactsN P ops Q C T fr (k + 1) l (Rs ++ [R])

/-- What the walk gives: the facts, one for each operation. -/
theorem wpFactsN_all {C : (Nat → Bool) → World → Prop} {T : Nat → World → World → Prop} {fr : (Nat → Value) → Act} : ∀ (l : List Oper) (k : Nat) (Rs : List FactN), (∀ i, l[i]? = ops[k + i]?) → Rs.length = k →
    (∀ (j : Nat) (R : FactN), Rs[j]? = some R → R.fine ops j ∧ R.firm ops T j) →
    (∀ (j : Nat) (o : Oper) (R : FactN), j < k → ops[j]? = some o → Rs[j]? = some R → ∀ vs L w, Gone ops L j → C L w → (∀ (j' : Nat) (R' : FactN), ahead .any ops ops.size j j' = true → R'.live ops j = true → j' < j → Rs[j']? = some R' → R'.at vs j' w) → ∀ K : Act → World → Prop, (∀ a' v w', a' = (fr vs).put o.dst v → R.R (vs R.D) v w' → C (Listed.but L j) w' → T j w w' → K a' w') →
      if Region.wanted o (yielded ops (fr vs).tmps) = true then o.wp P (fr vs) w K Q else K ((fr vs).put o.dst undef) w) →
    wpFactsN P ops Q C T fr k l Rs →
    ∃ Rs' : List FactN, Rs'.length = k + l.length ∧ (∀ (j : Nat) (R : FactN), Rs'[j]? = some R → R.fine ops j ∧ R.firm ops T j) ∧
    (∀ (j : Nat) (o : Oper) (R : FactN), ops[j]? = some o → Rs'[j]? = some R → ∀ vs L w, Gone ops L j → C L w → (∀ (j' : Nat) (R' : FactN), ahead .any ops ops.size j j' = true → R'.live ops j = true → j' < j → Rs'[j']? = some R' → R'.at vs j' w) → ∀ K : Act → World → Prop, (∀ a' v w', a' = (fr vs).put o.dst v → R.R (vs R.D) v w' → C (Listed.but L j) w' → T j w w' → K a' w') →
      if Region.wanted o (yielded ops (fr vs).tmps) = true then o.wp P (fr vs) w K Q else K ((fr vs).put o.dst undef) w) ∧
    (∀ vs L w, (∀ j, j < ops.size → L j = true) → C L w → (∀ (j : Nat) (R : FactN), R.Br = [] → Rs'[j]? = some R → R.at vs j w) → Q .normal (fr vs) w)
  | [], k, Rs, hl, hlen, hst, hop, h => by
    refine ⟨Rs, by simpa using hlen, hst, fun j o R ho hR => hop j o R ?_ ho hR, h⟩
    rw [← hlen]; exact (List.getElem?_eq_some_iff.1 hR).1
  | o :: l, k, Rs, hl, hlen, hst, hop, h => by
    obtain ⟨R, hRf, hRs, hRo, hrest⟩ := h
    have ho : ops[k]? = some o := by simpa using (hl 0).symm
    have hold : ∀ j, j < k → (Rs ++ [R])[j]? = Rs[j]? := fun j hj => List.getElem?_append_left (by omega)
    have hnew : (Rs ++ [R])[k]? = some R := by rw [List.getElem?_append_right (by omega), hlen]; simp
    obtain ⟨Rs', h1, h2, h3, h4⟩ := wpFactsN_all l (k + 1) (Rs ++ [R]) (fun i => by have := hl (i + 1); simpa [Nat.add_assoc, Nat.add_comm 1 i] using this) (by simp [hlen])
      (fun j R' hR' => by
        rcases Nat.lt_trichotomy j k with hj | hj | hj
        · rw [hold j hj] at hR'; exact hst j R' hR'
        · subst hj; rw [hnew] at hR'; cases hR'; exact ⟨hRf, hRs⟩
        · rw [List.getElem?_eq_none (by simp [hlen]; omega)] at hR'; cases hR')
      (fun j o' R' hj ho' hR' vs L w hG hC hB K hK => by
        rcases Nat.lt_or_ge j k with hjk | hjk
        · rw [hold j hjk] at hR'
          exact hop j o' R' hjk ho' hR' vs L w hG hC (fun j' R'' ha hv hlt h'' => hB j' R'' ha hv hlt (by rw [hold j' (by omega)]; exact h'')) K hK
        · obtain rfl : j = k := by omega
          rw [ho] at ho'; cases ho'
          rw [hnew] at hR'; cases hR'
          refine hRo vs L w hG hC (fun j' R'' ha hv h'' => ?_) K hK
          have hlt : j' < Rs.length := (List.getElem?_eq_some_iff.1 h'').1
          exact hB j' R'' ha hv (by omega) (by rw [hold j' (by omega)]; exact h''))
      hrest
    exact ⟨Rs', by rw [h1]; simp; omega, h2, h3, h4⟩

theorem getD_set_self {i : Nat} {listed : Array Bool} (h : i < listed.size) : (listed.setIfInBounds i true).getD i false = true := by simp [h]
theorem wpAny_factsN {C : (Nat → Bool) → World → Prop} {T : Nat → World → World → Prop} {a₀ : Act} (hap : dstsApart ops.toList = true) (hdn : edgesDown .any ops = true) (Rs : List FactN) (hlen : Rs.length = ops.size)
    (hst : ∀ (j : Nat) (R : FactN), Rs[j]? = some R → R.fine ops j ∧ R.firm ops T j)
    (hop : ∀ (j : Nat) (o : Oper) (R : FactN), ops[j]? = some o → Rs[j]? = some R → ∀ vs L w, Gone ops L j → C L w → (∀ (j' : Nat) (R' : FactN), ahead .any ops ops.size j j' = true → R'.live ops j = true → j' < j → Rs[j']? = some R' → R'.at vs j' w) → ∀ K : Act → World → Prop, (∀ a' v w', a' = (fillOps vs ops.toList 0 a₀).put o.dst v → R.R (vs R.D) v w' → C (Listed.but L j) w' → T j w w' → K a' w') →
      if Region.wanted o (yielded ops (fillOps vs ops.toList 0 a₀).tmps) = true then o.wp P (fillOps vs ops.toList 0 a₀) w K Q else K ((fillOps vs ops.toList 0 a₀).put o.dst undef) w)
    (hend : ∀ vs L w, (∀ j, j < ops.size → L j = true) → C L w → (∀ (j : Nat) (R : FactN), R.Br = [] → Rs[j]? = some R → R.at vs j w) → Q .normal (fillOps vs ops.toList 0 a₀) w) :
    ∀ (fuel : Nat) (listed : Array Bool) (vs : Nat → Value) (w : World), listed.size = ops.size → unlisted ops.size listed ≤ fuel → Closed .any ops listed → C (fun j => listed.getD j false) w → (∀ (j : Nat) (R : FactN), listed.getD j false = true → (∀ i ∈ R.Br, listed.getD i false = false) → Rs[j]? = some R → R.at vs j w) →
      wpAny P .any ops Q fuel listed (fillOps vs ops.toList 0 a₀) w := by
  have hfin : ∀ (listed : Array Bool) (vs : Nat → Value) (w : World), listed.size = ops.size → C (fun j => listed.getD j false) w → (∀ (j : Nat) (R : FactN), listed.getD j false = true → (∀ i ∈ R.Br, listed.getD i false = false) → Rs[j]? = some R → R.at vs j w) → Region.ready .any ops listed = [] → Q .normal (fillOps vs ops.toList 0 a₀) w :=
    fun listed vs w hs hC hR hr => hend vs _ w (fun j hj => listed_ready hdn hs hr j hj) hC fun j R hbr hj => hR j R (listed_ready hdn hs hr j (by rw [← hlen]; exact (List.getElem?_eq_some_iff.1 hj).1)) (by rw [hbr]; intro i hi; cases hi) hj
  intro fuel
  induction fuel with
  | zero =>
    intro listed vs w hs hu hcl hC hR
    have hr : Region.ready .any ops listed = [] := by
      rw [List.eq_nil_iff_forall_not_mem]
      intro j hj
      obtain ⟨h0, o, ho, _⟩ := mem_ready.1 hj
      have hjs : j < ops.size := (Array.getElem?_eq_some_iff.1 ho).1
      have : unlisted ops.size (listed.setIfInBounds j true) < unlisted ops.size listed := unlisted_set hjs hs (by
        have : j < listed.size := by omega
        simp only [Array.getD, this, ↓reduceDIte] at h0 ⊢; exact h0)
      omega
    exact ⟨hr, hfin listed vs w hs hC hR hr⟩
  | succ fuel ih =>
    intro listed vs w hs hu hcl hC hR
    refine ⟨hfin listed vs w hs hC hR, fun i hi => ?_⟩
    obtain ⟨h0, o, ho, hall⟩ := mem_ready.1 hi
    have hisz : i < ops.size := (Array.getElem?_eq_some_iff.1 ho).1
    have hil : i < listed.size := by omega
    have h0' : listed.getD i false = false := by simp only [Array.getD, hil, ↓reduceDIte] at h0 ⊢; exact h0
    obtain ⟨R, hRi⟩ : ∃ R, Rs[i]? = some R := ⟨Rs[i]'(by omega), List.getElem?_eq_getElem (by omega)⟩
    have hclo : ∀ j, ahead .any ops ops.size i j = true → listed.getD j false = true := fun j ha => ahead_listed hcl ops.size i j (fun o' ho' => by rw [ho] at ho'; cases ho'; exact hall) ha
    have hopn : ∀ j, ahead .any ops ops.size j i = true → listed.getD j false = false := fun j ha => by
      rcases hq : listed.getD j false with _ | _
      · rfl
      · have hl := ahead_listed hcl ops.size j i (fun o' ho' => hcl j o' ho' hq) ha
        rw [h0'] at hl; cases hl
    have hstep := hop i o R ho hRi vs (fun j => listed.getD j false) w ⟨h0', hclo, hopn⟩ hC (fun j' R' ha hv _ hR' => hR j' R' (ahead_listed hcl ops.size i j' (fun o' ho' => by rw [ho] at ho'; cases ho'; exact hall) ha) (fun i' hi' => by
        have hv' := List.all_eq_true.1 hv i' hi'
        simp only [Bool.or_eq_true, beq_iff_eq] at hv'
        rcases hv' with rfl | hv'
        · exact h0'
        · rcases hq : listed.getD i' false with _ | _
          · rfl
          · have hl := ahead_listed hcl ops.size i' i (fun o' ho' => hcl i' o' ho' hq) hv'
            rw [h0'] at hl; cases hl) hR')
      (wpAny P .any ops Q fuel (listed.setIfInBounds i true)) (fun a' v w' ha hRv hC' hT => by
        rw [ha, fillOps_upd ops.toList 0 a₀ vs i o v hap (by simpa using ho), Nat.zero_add]
        have hC9 : C (fun j => (listed.setIfInBounds i true).getD j false) w' := by
          have e : (fun j => (listed.setIfInBounds i true).getD j false) = Listed.but (fun j => listed.getD j false) i := by
            funext j
            unfold Listed.but
            by_cases e : j = i
            · subst e; rw [if_pos rfl]; exact getD_set_self hil
            · rw [if_neg e]; exact getD_set_ne false (Ne.symm e)
          rw [e]; exact hC'
        refine ih _ _ _ (by simpa using hs) ?_ ?_ hC9 ?_
        · have := unlisted_set hisz hs h0'; omega
        · intro j oj hoj hj e he hb
          by_cases hji : j = i
          · subst hji; rw [ho] at hoj; cases hoj; exact getD_set_true (hall e he hb)
          · rw [getD_set_ne false (Ne.symm hji)] at hj; exact getD_set_true (hcl j oj hoj hj e he hb)
        · intro j R' hj hbr hR'
          have key : ∀ (u' : Value), R'.R (vs R'.D) u' w' → R'.R (upd vs i v R'.D) u' w' := fun u' h => by
            by_cases hDi : R'.D = i
            · rcases (hst j R' hR').1 with hf | ha
              · exact hf _ _ _ _ h
              · exfalso
                have hl : listed.getD R'.D false = true := by
                  by_cases hji : j = i
                  · subst hji; exact ahead_listed hcl ops.size j _ (fun o' ho' => by rw [ho] at ho'; cases ho'; exact hall) ha
                  · rw [getD_set_ne false (Ne.symm hji)] at hj
                    exact ahead_listed hcl ops.size j _ (fun o' ho' => hcl j o' ho' hj) ha
                rw [hDi, h0'] at hl; cases hl
            · have : upd vs i v R'.D = vs R'.D := by unfold upd; rw [if_neg hDi]
              rw [this]; exact h
          unfold FactN.at
          by_cases hji : j = i
          · subst hji; rw [hRi] at hR'; cases hR'
            have : upd vs j v j = v := by unfold upd; rw [if_pos rfl]
            rw [this]
            exact key v hRv
          · rw [getD_set_ne false (Ne.symm hji)] at hj
            have hai : ahead .any ops ops.size j i = false := by
              rcases hq : ahead .any ops ops.size j i with _ | _
              · rfl
              · have hl := ahead_listed hcl ops.size j i (fun o' ho' => hcl j o' ho' hj) hq
                rw [h0'] at hl; cases hl
            have hib : i ∉ R'.Br := fun hm => by have h1 := hbr i hm; rw [getD_set_self hil] at h1; cases h1
            have hbr' : ∀ i' ∈ R'.Br, listed.getD i' false = false := fun i' hm => by
              have h1 := hbr i' hm
              by_cases e : i' = i
              · subst e; exact absurd hm hib
              · rwa [getD_set_ne false (Ne.symm e)] at h1
            have h3 := (hst j R' hR').2 i (Ne.symm hji) hib hai _ _ _ _ (hR j R' hj hbr' hR') hT
            have : upd vs i v j = vs j := by unfold upd; rw [if_neg hji]
            rw [this]
            refine key _ ?_
            exact h3)
    unfold wpOp
    simp only [ho]
    split
    · rename_i hw; rw [if_pos hw] at hstep; exact .inl hstep
    · rename_i hw; rw [if_neg hw] at hstep; exact hstep

/-- The region. -/
theorem wp_region_factsN {id : Nat} {a : Act} {w : World} {l : List Oper} (C : (Nat → Bool) → World → Prop) (T : Nat → World → World → Prop) (hm : P.follows .mixedOrders = true) (hap : dstsApart l = true) (hdn : edgesDown .any l.toArray = true)
    (hC : C (fun _ => false) w.drew) (h : wpFactsN P l.toArray Q C T (fun vs => fillOps vs l 0 a) 0 l []) : (Code.region id l.toArray true).wp P Q a w := by
  refine wp_region_any hm ?_
  obtain ⟨Rs, h1, h2, h3, h4⟩ := wpFactsN_all (ops := l.toArray) l 0 [] (by simp) rfl (by simp) (by simp) h
  obtain ⟨vs, hvs⟩ : ∃ vs : Nat → Value, ∀ i o t, l[i]? = some o → o.dst = some t → vs (0 + i) = a.tmps.getD t undef :=
    ⟨fun i => match (l[i]?).bind (·.dst) with | some t => a.tmps.getD t undef | none => undef, fun i o t hi ht => by simp [hi, ht]⟩
  have := wpAny_factsN (P := P) (Q := Q) (ops := l.toArray) (C := C) (T := T) (a₀ := a) hap hdn Rs (by simpa using h1) h2 h3 h4 l.toArray.size (Array.replicate l.toArray.size false) vs w.drew (by simp)
    (Nat.le_trans (List.length_filter_le _ _) (by simp)) (fun j o hj hl => by simp [Array.getD] at hl) (by
      have e : (fun j => (Array.replicate l.toArray.size false).getD j false) = fun _ => false := by funext j; simp [Array.getD]
      rw [e]; exact hC) (fun j R hl => by simp [Array.getD] at hl)
  rwa [fillOps_self vs _ 0 a (by simpa using hvs)] at this

theorem wpFactsN_nil {C : (Nat → Bool) → World → Prop} {T : Nat → World → World → Prop} {fr : (Nat → Value) → Act} {k : Nat} {Rs : List FactN} (h : ∀ vs L w, (∀ j, j < ops.size → L j = true) → C L w → (∀ (j : Nat) (R : FactN), R.Br = [] → Rs[j]? = some R → R.at vs j w) → Q .normal (fr vs) w) : wpFactsN P ops Q C T fr k [] Rs := h
/-- An operation with one value. -/
theorem wpFactsN_val {C : (Nat → Bool) → World → Prop} {T : Nat → World → World → Prop} {fr : (Nat → Value) → Act} {k : Nat} {o : Oper} {l : List Oper} {Rs : List FactN} (V : Value)
    (h1 : ∀ vs L w, Gone ops L k → C L w → (∀ (j : Nat) (R' : FactN), ahead .any ops ops.size k j = true → R'.live ops k = true → Rs[j]? = some R' → R'.at vs j w) → ∀ K : Act → World → Prop, (∀ a' w', a' = (fr vs).put o.dst V → C (Listed.but L k) w' → T k w w' → K a' w') →
      if Region.wanted o (yielded ops (fr vs).tmps) = true then o.wp P (fr vs) w K Q else K ((fr vs).put o.dst undef) w)
    (h2 : wpFactsN P ops Q C T fr (k + 1) l (Rs ++ [⟨0, fun _ v _ => v = V, []⟩])) : wpFactsN P ops Q C T fr k (o :: l) Rs :=
  ⟨⟨0, fun _ v _ => v = V, []⟩, .inl (fun _ _ _ _ h => h), fun _ _ _ _ _ _ _ _ h _ => h, fun vs L w hG hC hB K hK => h1 vs L w hG hC hB K fun a' w' ha hC' hT => hK a' V w' ha rfl hC' hT, h2⟩
/-- An operation whose value has a property. -/
theorem wpFactsN_some {C : (Nat → Bool) → World → Prop} {T : Nat → World → World → Prop} {fr : (Nat → Value) → Act} {k : Nat} {o : Oper} {l : List Oper} {Rs : List FactN} (Br : List Nat) (R : Value → World → Prop) (hR : ∀ i, i ≠ k → i ∉ Br → ahead .any ops ops.size k i = false → ∀ v w w', R v w → T i w w' → R v w')
    (h1 : ∀ vs L w, Gone ops L k → C L w → (∀ (j : Nat) (R' : FactN), ahead .any ops ops.size k j = true → R'.live ops k = true → Rs[j]? = some R' → R'.at vs j w) → ∀ K : Act → World → Prop, (∀ a' v w', a' = (fr vs).put o.dst v → R v w' → C (Listed.but L k) w' → T k w w' → K a' w') →
      if Region.wanted o (yielded ops (fr vs).tmps) = true then o.wp P (fr vs) w K Q else K ((fr vs).put o.dst undef) w)
    (h2 : wpFactsN P ops Q C T fr (k + 1) l (Rs ++ [⟨0, fun _ v w => R v w, Br⟩])) : wpFactsN P ops Q C T fr k (o :: l) Rs :=
  ⟨⟨0, fun _ v w => R v w, Br⟩, .inl (fun _ _ _ _ h => h), fun i hi hb ha _ v w w' h t => hR i hi hb ha v w w' h t, h1, h2⟩
/-- An operation whose value has a property that speaks of an operation ahead. -/
theorem wpFactsN_pair {C : (Nat → Bool) → World → Prop} {T : Nat → World → World → Prop} {fr : (Nat → Value) → Act} {k : Nat} {o : Oper} {l : List Oper} {Rs : List FactN} (Br : List Nat) (D : Nat) (R : Value → Value → World → Prop) (hD : ahead .any ops ops.size k D = true) (hR : ∀ i, i ≠ k → i ∉ Br → ahead .any ops ops.size k i = false → ∀ u v w w', R u v w → T i w w' → R u v w')
    (h1 : ∀ vs L w, Gone ops L k → C L w → (∀ (j : Nat) (R' : FactN), ahead .any ops ops.size k j = true → R'.live ops k = true → Rs[j]? = some R' → R'.at vs j w) → ∀ K : Act → World → Prop, (∀ a' v w', a' = (fr vs).put o.dst v → R (vs D) v w' → C (Listed.but L k) w' → T k w w' → K a' w') →
      if Region.wanted o (yielded ops (fr vs).tmps) = true then o.wp P (fr vs) w K Q else K ((fr vs).put o.dst undef) w)
    (h2 : wpFactsN P ops Q C T fr (k + 1) l (Rs ++ [⟨D, R, Br⟩])) : wpFactsN P ops Q C T fr k (o :: l) Rs :=
  ⟨⟨D, R, Br⟩, .inr hD, hR, h1, h2⟩
end
/-- One thing holds until operation s has been, another from then on. -/
def Sw (s : Nat) (C0 C1 : World → Prop) (L : Nat → Bool) (w : World) : Prop := if L s = true then C1 w else C0 w
section
variable {ops : Array Oper} {s k : Nat} {C0 C1 : World → Prop} {L : Nat → Bool} {w w' : World}
theorem Sw.start (h : C0 w) : Sw s C0 C1 (fun _ => false) w := by unfold Sw; rw [if_neg (by simp)]; exact h
theorem Sw.before (hG : Gone ops L k) (ha : ahead .any ops ops.size s k = true) (h : Sw s C0 C1 L w) : C0 w := by
  unfold Sw at h; rwa [if_neg (by rw [hG.open_ s ha]; simp)] at h
theorem Sw.stay (hG : Gone ops L k) (ha : ahead .any ops ops.size s k = true) (hne : s ≠ k) (h : C0 w) : Sw s C0 C1 (Listed.but L k) w := by
  unfold Sw Listed.but; rw [if_neg (by rw [if_neg hne, hG.open_ s ha]; simp)]; exact h
theorem Sw.here (hG : Gone ops L s) (h : Sw s C0 C1 L w) : C0 w := by unfold Sw at h; rwa [if_neg (by rw [hG.self]; simp)] at h
theorem Sw.turn (h : C1 w) : Sw s C0 C1 (Listed.but L s) w := by unfold Sw Listed.but; rw [if_pos (if_pos rfl)]; exact h
theorem Sw.after (hG : Gone ops L k) (ha : ahead .any ops ops.size k s = true) (h : Sw s C0 C1 L w) : C1 w := by unfold Sw at h; rwa [if_pos (hG.done s ha)] at h
theorem Sw.on (hG : Gone ops L k) (ha : ahead .any ops ops.size k s = true) (h : C1 w) : Sw s C0 C1 (Listed.but L k) w := by
  unfold Sw Listed.but; rw [if_pos (by rw [hG.done s ha]; simp)]; exact h
theorem Sw.both (hne : s ≠ k) (h0 : C0 w → C0 w') (h1 : C1 w → C1 w') (h : Sw s C0 C1 L w) : Sw s C0 C1 (Listed.but L k) w' := by
  unfold Sw Listed.but at *
  rw [if_neg hne]
  split at h
  · rename_i e; rw [if_pos e]; exact h1 h
  · rename_i e; rw [if_neg e]; exact h0 h
theorem Sw.done (hL : ∀ j, j < ops.size → L j = true) (hs : s < ops.size) (h : Sw s C0 C1 L w) : C1 w := by unfold Sw at h; rwa [if_pos (hL s hs)] at h
end
end Go.Proofs.YtkokbmmffkpclaaDoor

/- The facts law with its facts the other way round: cheap look-ups. -/
namespace Go.Proofs.YtkokbmmffkpclaaDoor
open Go.RowKit

section
variable {P : Program} {ops : Array Oper} {Q : Exit → Act → World → Prop}
/-- The same walk, the facts' list the other way round (its look-ups stay cheap). -/
def wpFactsR (P : Program) (ops : Array Oper) (Q : Exit → Act → World → Prop) (C : (Nat → Bool) → World → Prop) (T : Nat → World → World → Prop) (fr : (Nat → Value) → Act) : Nat → List Oper → List FactN → Prop
  | k, [], Rs => ∀ vs L w, (∀ j, j < ops.size → L j = true) → C L w → (∀ (j : Nat) (R : FactN), R.Br = [] → Rs[k - 1 - j]? = some R → j < k → R.at vs j w) → Q .normal (fr vs) w
  | k, o :: l, Rs => ∃ R : FactN, R.fine ops k ∧ R.firm ops T k ∧
    (∀ vs L w, Gone ops L k → C L w → (∀ (j : Nat) (R' : FactN), ahead .any ops ops.size k j = true → R'.live ops k = true → Rs[k - 1 - j]? = some R' → j < k → R'.at vs j w) → ∀ K : Act → World → Prop, (∀ a' v w', a' = (fr vs).put o.dst v → R.R (vs R.D) v w' → C (Listed.but L k) w' → T k w w' → K a' w') →
      if Region.wanted o (yielded ops (fr vs).tmps) = true then o.wp P (fr vs) w K Q else K ((fr vs).put o.dst undef) w) ∧
    wpFactsR P ops Q C T fr (k + 1) l (R :: Rs)
theorem rev_look {Rs : List FactN} {k j : Nat} {R : FactN} (hk : Rs.length = k) (h : Rs[k - 1 - j]? = some R) (hj : j < k) : Rs.reverse[j]? = some R := by
  rw [List.getElem?_reverse (by omega), hk]; exact h
theorem wpFactsR_N {C : (Nat → Bool) → World → Prop} {T : Nat → World → World → Prop} {fr : (Nat → Value) → Act} : ∀ (l : List Oper) (k : Nat) (Rs : List FactN), Rs.length = k → wpFactsR P ops Q C T fr k l Rs → wpFactsN P ops Q C T fr k l Rs.reverse
  | [], _, _, hk, h => fun vs L w hL hC hB => h vs L w hL hC fun j R hb hR hj => hB j R hb (rev_look hk hR hj)
  | _ :: l, k, Rs, hk, ⟨R, h1, h2, h3, h4⟩ => ⟨R, h1, h2, fun vs L w hG hC hB K hK => h3 vs L w hG hC (fun j R' ha hv hR hj => hB j R' ha hv (rev_look hk hR hj)) K hK, by
      have := wpFactsR_N l (k + 1) (R :: Rs) (by simp [hk]) h4
      rwa [List.reverse_cons] at this⟩
theorem wp_region_factsR {id : Nat} {a : Act} {w : World} {l : List Oper} (C : (Nat → Bool) → World → Prop) (T : Nat → World → World → Prop) (hm : P.follows .mixedOrders = true) (hap : dstsApart l = true) (hdn : edgesDown .any l.toArray = true)
    (hC : C (fun _ => false) w.drew) (h : wpFactsR P l.toArray Q C T (fun vs => fillOps vs l 0 a) 0 l []) : (Code.region id l.toArray true).wp P Q a w :=
  wp_region_factsN C T hm hap hdn hC (wpFactsR_N l 0 [] rfl h)
theorem wpFactsR_nil {C : (Nat → Bool) → World → Prop} {T : Nat → World → World → Prop} {fr : (Nat → Value) → Act} {k : Nat} {Rs : List FactN} (h : ∀ vs L w, (∀ j, j < ops.size → L j = true) → C L w → (∀ (j : Nat) (R : FactN), R.Br = [] → Rs[k - 1 - j]? = some R → j < k → R.at vs j w) → Q .normal (fr vs) w) : wpFactsR P ops Q C T fr k [] Rs := h
theorem wpFactsR_val {C : (Nat → Bool) → World → Prop} {T : Nat → World → World → Prop} {fr : (Nat → Value) → Act} {k : Nat} {o : Oper} {l : List Oper} {Rs : List FactN} (V : Value)
    (h1 : ∀ vs L w, Gone ops L k → C L w → (∀ (j : Nat) (R' : FactN), ahead .any ops ops.size k j = true → R'.live ops k = true → Rs[k - 1 - j]? = some R' → j < k → R'.at vs j w) → ∀ K : Act → World → Prop, (∀ a' w', a' = (fr vs).put o.dst V → C (Listed.but L k) w' → T k w w' → K a' w') →
      if Region.wanted o (yielded ops (fr vs).tmps) = true then o.wp P (fr vs) w K Q else K ((fr vs).put o.dst undef) w)
    (h2 : wpFactsR P ops Q C T fr (k + 1) l (⟨0, fun _ v _ => v = V, []⟩ :: Rs)) : wpFactsR P ops Q C T fr k (o :: l) Rs :=
  ⟨⟨0, fun _ v _ => v = V, []⟩, .inl (fun _ _ _ _ h => h), fun _ _ _ _ _ _ _ _ h _ => h, fun vs L w hG hC hB K hK => h1 vs L w hG hC hB K fun a' w' ha hC' hT => hK a' V w' ha rfl hC' hT, h2⟩
theorem wpFactsR_some {C : (Nat → Bool) → World → Prop} {T : Nat → World → World → Prop} {fr : (Nat → Value) → Act} {k : Nat} {o : Oper} {l : List Oper} {Rs : List FactN} (Br : List Nat) (R : Value → World → Prop) (hR : ∀ i, i ≠ k → i ∉ Br → ahead .any ops ops.size k i = false → ∀ v w w', R v w → T i w w' → R v w')
    (h1 : ∀ vs L w, Gone ops L k → C L w → (∀ (j : Nat) (R' : FactN), ahead .any ops ops.size k j = true → R'.live ops k = true → Rs[k - 1 - j]? = some R' → j < k → R'.at vs j w) → ∀ K : Act → World → Prop, (∀ a' v w', a' = (fr vs).put o.dst v → R v w' → C (Listed.but L k) w' → T k w w' → K a' w') →
      if Region.wanted o (yielded ops (fr vs).tmps) = true then o.wp P (fr vs) w K Q else K ((fr vs).put o.dst undef) w)
    (h2 : wpFactsR P ops Q C T fr (k + 1) l (⟨0, fun _ v w => R v w, Br⟩ :: Rs)) : wpFactsR P ops Q C T fr k (o :: l) Rs :=
  ⟨⟨0, fun _ v w => R v w, Br⟩, .inl (fun _ _ _ _ h => h), fun i hi hb ha _ v w w' h t => hR i hi hb ha v w w' h t, h1, h2⟩
theorem wpFactsR_pair {C : (Nat → Bool) → World → Prop} {T : Nat → World → World → Prop} {fr : (Nat → Value) → Act} {k : Nat} {o : Oper} {l : List Oper} {Rs : List FactN} (Br : List Nat) (D : Nat) (R : Value → Value → World → Prop) (hD : ahead .any ops ops.size k D = true) (hR : ∀ i, i ≠ k → i ∉ Br → ahead .any ops ops.size k i = false → ∀ u v w w', R u v w → T i w w' → R u v w')
    (h1 : ∀ vs L w, Gone ops L k → C L w → (∀ (j : Nat) (R' : FactN), ahead .any ops ops.size k j = true → R'.live ops k = true → Rs[k - 1 - j]? = some R' → j < k → R'.at vs j w) → ∀ K : Act → World → Prop, (∀ a' v w', a' = (fr vs).put o.dst v → R (vs D) v w' → C (Listed.but L k) w' → T k w w' → K a' w') →
      if Region.wanted o (yielded ops (fr vs).tmps) = true then o.wp P (fr vs) w K Q else K ((fr vs).put o.dst undef) w)
    (h2 : wpFactsR P ops Q C T fr (k + 1) l (⟨D, R, Br⟩ :: Rs)) : wpFactsR P ops Q C T fr k (o :: l) Rs :=
  ⟨⟨D, R, Br⟩, .inr hD, hR, h1, h2⟩
end
end Go.Proofs.YtkokbmmffkpclaaDoor

/- A step of an auction in the program. (Printed by gen_lotstep.py) -/
namespace Go.Proofs.YtkokbmmffkpclaaDoor
open Go.RowKit

/-- A step gives lots of the call's own where it is possible. -/
def GivesMk (w : World) (R : Option (List Lot)) (e : Ending) (w' : World) : Prop :=
  ∃ v, e = .returned (.tuple #[v, .bool R.isSome]) ∧ (∀ r, R = some r → ∃ A c, v = .slice A r.length c ∧ w'.ownsRow w.heap.size 41 5 (.slice A r.length c) r.length (r.flatMap Lot.enc)) ∧ Below w.heap.size w w'
theorem GivesMk.fail {w w' : World} {v : Value} (hb : Below w.heap.size w w') : GivesMk w none (.returned (.tuple #[v, .bool false])) w' := ⟨v, rfl, fun _ h => (by cases h), hb⟩
theorem idCmp_any (x : Lot) (id : Int) (w : World) : Calls Tryd.prog 49 (#[x.val, .int .i64 id] ++ #[]) w fun e w' => e = .returned (.int .i64 (cmpI x.i id)) ∧ Below w.heap.size w w' := by
  have b0 := (Below.refl w.heap.size w).alloc (Nat.le_refl _) (.cells #[.int .i64 x.i, .int .i64 x.r, .int .i64 x.s, .int .i64 x.h, .int .i64 x.b] 41)
  go_enter Tryd.func49, Tryd.ntmps49
  go_wp2_with fail
  refine (compare_any x.i id _).mono ?_
  rintro e w' ⟨rfl, rfl⟩
  go_wp2
  go_ret
  exact ⟨rfl, b0⟩
theorem cmpI_neg {a b : Int} : cmpI a b < 0 ↔ a < b := by unfold cmpI; split; omega; split <;> omega
theorem cmpI_zero {a b : Int} : cmpI a b = 0 ↔ a = b := by unfold cmpI; split; omega; split <;> omega
/-- The place of a number in a good list. -/
theorem bsId_any (A : Option Addr) (c : Nat) (l : List Lot) (id : Int) (w : World) (h : LotsR w w.heap.size A l) (G : GoodL l) :
    Calls Tryd.prog 48 #[.slice A l.length c, .int .i64 id, .func (.func 49) #[] #[]] w fun e w' => e = .returned (.tuple #[.int .i64 (posL l id), .bool (decide (0 ≤ findIx l id))]) ∧ Below w.heap.size w w' := by
  obtain ⟨_, h2, h3, h4, h5⟩ := find_pos G id
  have hl := G.len
  refine bsLot_any (fun t => cmpI t.i id) (.int .i64 id) 49 #[] Tryd.call49 A c l w (fun t p => idCmp_any t id p.val) h (by omega) (posL l id) h2 (fun i hi hb => cmpI_neg.2 (h3 i hi hb)) (fun i hi hb hn => h4 i hi hb (cmpI_neg.1 hn)) _ (fun hb => ?_) (fun e => ?_)
  · rw [decide_eq_decide, h5]
    constructor
    · rintro ⟨_, h7⟩; exact cmpI_zero.2 h7
    · intro h7; exact ⟨hb, cmpI_zero.1 h7⟩
  · rw [decide_eq_false_iff_not, h5]
    rintro ⟨h7, _⟩
    omega

set_option maxRecDepth 100000 in
set_option maxHeartbeats 4000000 in
theorem stepA_none4 (A : Option Addr) (c : Nat) (l : List Lot) (i b v : Int) (w : World) (h : LotsR w w.heap.size A l) (G : GoodL l) (ho : openIx l < 0) :
    Calls Tryd.prog 36 #[.slice A l.length c, .agg #[.int .i64 4, .int .i64 i, .int .i64 b, .int .i64 v]] w (GivesMk w none) := by
  have hoi : decide (0 ≤ openIx l) = false := decide_eq_false (by omega)
  have b0 := (Below.refl w.heap.size w).alloc (Nat.le_refl _) (.cells #[.int .i64 4, .int .i64 i, .int .i64 b, .int .i64 v] 39)
  have b0s := b0.size
  have L0 := Lies.new w 39 #[.int .i64 4, .int .i64 i, .int .i64 b, .int .i64 v]
  have hW := SlcR.up h b0 (Nat.le_refl _)
  have len := G.len
  have BS := fun W hR => bsId_any A c l i W hR G
  go_enter Tryd.func36, Tryd.ntmps36
  go_wp2_with fail
  generalize w.alloc (.cells #[.int .i64 4, .int .i64 i, .int .i64 b, .int .i64 v] 39) = W at b0 b0s L0 hW ⊢
  generalize hgb : w.heap.size = g at L0 ⊢
  rw [hgb] at b0 b0s
  refine (cloneLot_any A c l W hW (by omega)).mono ?_
  rintro e w1 ⟨A1, c1, rfl, hO1, hb1⟩
  have L1 := L0.below hb1 L0.lt
  have s0 := L1.cell 0
  have s1 := L1.cell 1
  have s2 := L1.cell 2
  have s3 := L1.cell 3
  simp only [List.getElem?_cons_zero, List.getElem?_cons_succ] at s0 s1 s2 s3
  have HO1 := Lib.hid hO1; clear hO1
  go_wp2_with fail
  refine (BS w1 (SlcR.up hW hb1 (Nat.le_refl _))).mono ?_
  rintro e w2 ⟨rfl, hb2⟩
  have L2 := L1.below hb2 L1.lt
  clear s0 s1 s2 s3
  have s0 := L2.cell 0
  have s1 := L2.cell 1
  have s2 := L2.cell 2
  have s3 := L2.cell 3
  simp only [List.getElem?_cons_zero, List.getElem?_cons_succ] at s0 s1 s2 s3
  go_wp2_with fail
  refine (openLot_any A c l w2 (SlcR.up hW (bthen hb1 hb2) (Nat.le_refl _))).mono ?_
  rintro e w3 ⟨rfl, hb3⟩
  have L3 := L2.below hb3 L2.lt
  clear s0 s1 s2 s3
  have s0 := L3.cell 0
  have s1 := L3.cell 1
  have s2 := L3.cell 2
  have s3 := L3.cell 3
  simp only [List.getElem?_cons_zero, List.getElem?_cons_succ] at s0 s1 s2 s3
  go_wp2
  refine bodyPost_ret (v := .tuple #[.slice none 0 0, .bool false]) (by simp [results, Tryd.results36, go_sem, *]) rfl (GivesMk.fail ?_)
  rw [hgb]
  exact b0.trans ((bthen hb1 (bthen hb2 hb3)).mono b0s)
set_option maxRecDepth 100000 in
set_option maxHeartbeats 4000000 in
theorem stepA_none5 (A : Option Addr) (c : Nat) (l : List Lot) (i b v : Int) (w : World) (h : LotsR w w.heap.size A l) (G : GoodL l) (ho : openIx l < 0) :
    Calls Tryd.prog 36 #[.slice A l.length c, .agg #[.int .i64 5, .int .i64 i, .int .i64 b, .int .i64 v]] w (GivesMk w none) := by
  have hoi : decide (0 ≤ openIx l) = false := decide_eq_false (by omega)
  have b0 := (Below.refl w.heap.size w).alloc (Nat.le_refl _) (.cells #[.int .i64 5, .int .i64 i, .int .i64 b, .int .i64 v] 39)
  have b0s := b0.size
  have L0 := Lies.new w 39 #[.int .i64 5, .int .i64 i, .int .i64 b, .int .i64 v]
  have hW := SlcR.up h b0 (Nat.le_refl _)
  have len := G.len
  have BS := fun W hR => bsId_any A c l i W hR G
  go_enter Tryd.func36, Tryd.ntmps36
  go_wp2_with fail
  generalize w.alloc (.cells #[.int .i64 5, .int .i64 i, .int .i64 b, .int .i64 v] 39) = W at b0 b0s L0 hW ⊢
  generalize hgb : w.heap.size = g at L0 ⊢
  rw [hgb] at b0 b0s
  refine (cloneLot_any A c l W hW (by omega)).mono ?_
  rintro e w1 ⟨A1, c1, rfl, hO1, hb1⟩
  have L1 := L0.below hb1 L0.lt
  have s0 := L1.cell 0
  have s1 := L1.cell 1
  have s2 := L1.cell 2
  have s3 := L1.cell 3
  simp only [List.getElem?_cons_zero, List.getElem?_cons_succ] at s0 s1 s2 s3
  have HO1 := Lib.hid hO1; clear hO1
  go_wp2_with fail
  refine (BS w1 (SlcR.up hW hb1 (Nat.le_refl _))).mono ?_
  rintro e w2 ⟨rfl, hb2⟩
  have L2 := L1.below hb2 L1.lt
  clear s0 s1 s2 s3
  have s0 := L2.cell 0
  have s1 := L2.cell 1
  have s2 := L2.cell 2
  have s3 := L2.cell 3
  simp only [List.getElem?_cons_zero, List.getElem?_cons_succ] at s0 s1 s2 s3
  go_wp2_with fail
  refine (openLot_any A c l w2 (SlcR.up hW (bthen hb1 hb2) (Nat.le_refl _))).mono ?_
  rintro e w3 ⟨rfl, hb3⟩
  have L3 := L2.below hb3 L2.lt
  clear s0 s1 s2 s3
  have s0 := L3.cell 0
  have s1 := L3.cell 1
  have s2 := L3.cell 2
  have s3 := L3.cell 3
  simp only [List.getElem?_cons_zero, List.getElem?_cons_succ] at s0 s1 s2 s3
  go_wp2
  refine bodyPost_ret (v := .tuple #[.slice none 0 0, .bool false]) (by simp [results, Tryd.results36, go_sem, *]) rfl (GivesMk.fail ?_)
  rw [hgb]
  exact b0.trans ((bthen hb1 (bthen hb2 hb3)).mono b0s)
set_option maxRecDepth 100000 in
set_option maxHeartbeats 4000000 in
theorem stepB_none1 (A : Option Addr) (c : Nat) (l : List Lot) (i b v : Int) (w : World) (h : LotsR w w.heap.size A l) (G : GoodL l) (ho : 0 ≤ findIx l i) :
    Calls Tryd.prog 36 #[.slice A l.length c, .agg #[.int .i64 1, .int .i64 i, .int .i64 b, .int .i64 v]] w (GivesMk w none) := by
  have hoi : decide (0 ≤ findIx l i) = true := decide_eq_true (by omega)
  have b0 := (Below.refl w.heap.size w).alloc (Nat.le_refl _) (.cells #[.int .i64 1, .int .i64 i, .int .i64 b, .int .i64 v] 39)
  have b0s := b0.size
  have L0 := Lies.new w 39 #[.int .i64 1, .int .i64 i, .int .i64 b, .int .i64 v]
  have hW := SlcR.up h b0 (Nat.le_refl _)
  have len := G.len
  have BS := fun W hR => bsId_any A c l i W hR G
  go_enter Tryd.func36, Tryd.ntmps36
  go_wp2_with fail
  generalize w.alloc (.cells #[.int .i64 1, .int .i64 i, .int .i64 b, .int .i64 v] 39) = W at b0 b0s L0 hW ⊢
  generalize hgb : w.heap.size = g at L0 ⊢
  rw [hgb] at b0 b0s
  refine (cloneLot_any A c l W hW (by omega)).mono ?_
  rintro e w1 ⟨A1, c1, rfl, hO1, hb1⟩
  have L1 := L0.below hb1 L0.lt
  have s0 := L1.cell 0
  have s1 := L1.cell 1
  have s2 := L1.cell 2
  have s3 := L1.cell 3
  simp only [List.getElem?_cons_zero, List.getElem?_cons_succ] at s0 s1 s2 s3
  have HO1 := Lib.hid hO1; clear hO1
  go_wp2_with fail
  refine (BS w1 (SlcR.up hW hb1 (Nat.le_refl _))).mono ?_
  rintro e w2 ⟨rfl, hb2⟩
  have L2 := L1.below hb2 L1.lt
  clear s0 s1 s2 s3
  have s0 := L2.cell 0
  have s1 := L2.cell 1
  have s2 := L2.cell 2
  have s3 := L2.cell 3
  simp only [List.getElem?_cons_zero, List.getElem?_cons_succ] at s0 s1 s2 s3
  go_wp2
  refine bodyPost_ret (v := .tuple #[.slice none 0 0, .bool false]) (by simp [results, Tryd.results36, go_sem, *]) rfl (GivesMk.fail ?_)
  rw [hgb]
  exact b0.trans ((bthen hb1 hb2).mono b0s)
set_option maxRecDepth 100000 in
set_option maxHeartbeats 4000000 in
theorem stepB_none2 (A : Option Addr) (c : Nat) (l : List Lot) (i b v : Int) (w : World) (h : LotsR w w.heap.size A l) (G : GoodL l) (ho : findIx l i < 0) :
    Calls Tryd.prog 36 #[.slice A l.length c, .agg #[.int .i64 2, .int .i64 i, .int .i64 b, .int .i64 v]] w (GivesMk w none) := by
  have hoi : decide (0 ≤ findIx l i) = false := decide_eq_false (by omega)
  have b0 := (Below.refl w.heap.size w).alloc (Nat.le_refl _) (.cells #[.int .i64 2, .int .i64 i, .int .i64 b, .int .i64 v] 39)
  have b0s := b0.size
  have L0 := Lies.new w 39 #[.int .i64 2, .int .i64 i, .int .i64 b, .int .i64 v]
  have hW := SlcR.up h b0 (Nat.le_refl _)
  have len := G.len
  have BS := fun W hR => bsId_any A c l i W hR G
  go_enter Tryd.func36, Tryd.ntmps36
  go_wp2_with fail
  generalize w.alloc (.cells #[.int .i64 2, .int .i64 i, .int .i64 b, .int .i64 v] 39) = W at b0 b0s L0 hW ⊢
  generalize hgb : w.heap.size = g at L0 ⊢
  rw [hgb] at b0 b0s
  refine (cloneLot_any A c l W hW (by omega)).mono ?_
  rintro e w1 ⟨A1, c1, rfl, hO1, hb1⟩
  have L1 := L0.below hb1 L0.lt
  have s0 := L1.cell 0
  have s1 := L1.cell 1
  have s2 := L1.cell 2
  have s3 := L1.cell 3
  simp only [List.getElem?_cons_zero, List.getElem?_cons_succ] at s0 s1 s2 s3
  have HO1 := Lib.hid hO1; clear hO1
  go_wp2_with fail
  refine (BS w1 (SlcR.up hW hb1 (Nat.le_refl _))).mono ?_
  rintro e w2 ⟨rfl, hb2⟩
  have L2 := L1.below hb2 L1.lt
  clear s0 s1 s2 s3
  have s0 := L2.cell 0
  have s1 := L2.cell 1
  have s2 := L2.cell 2
  have s3 := L2.cell 3
  simp only [List.getElem?_cons_zero, List.getElem?_cons_succ] at s0 s1 s2 s3
  go_wp2
  refine bodyPost_ret (v := .tuple #[.slice none 0 0, .bool false]) (by simp [results, Tryd.results36, go_sem, *]) rfl (GivesMk.fail ?_)
  rw [hgb]
  exact b0.trans ((bthen hb1 hb2).mono b0s)
set_option maxRecDepth 100000 in
set_option maxHeartbeats 4000000 in
theorem stepB_none3 (A : Option Addr) (c : Nat) (l : List Lot) (i b v : Int) (w : World) (h : LotsR w w.heap.size A l) (G : GoodL l) (ho : findIx l i < 0) :
    Calls Tryd.prog 36 #[.slice A l.length c, .agg #[.int .i64 3, .int .i64 i, .int .i64 b, .int .i64 v]] w (GivesMk w none) := by
  have hoi : decide (0 ≤ findIx l i) = false := decide_eq_false (by omega)
  have b0 := (Below.refl w.heap.size w).alloc (Nat.le_refl _) (.cells #[.int .i64 3, .int .i64 i, .int .i64 b, .int .i64 v] 39)
  have b0s := b0.size
  have L0 := Lies.new w 39 #[.int .i64 3, .int .i64 i, .int .i64 b, .int .i64 v]
  have hW := SlcR.up h b0 (Nat.le_refl _)
  have len := G.len
  have BS := fun W hR => bsId_any A c l i W hR G
  go_enter Tryd.func36, Tryd.ntmps36
  go_wp2_with fail
  generalize w.alloc (.cells #[.int .i64 3, .int .i64 i, .int .i64 b, .int .i64 v] 39) = W at b0 b0s L0 hW ⊢
  generalize hgb : w.heap.size = g at L0 ⊢
  rw [hgb] at b0 b0s
  refine (cloneLot_any A c l W hW (by omega)).mono ?_
  rintro e w1 ⟨A1, c1, rfl, hO1, hb1⟩
  have L1 := L0.below hb1 L0.lt
  have s0 := L1.cell 0
  have s1 := L1.cell 1
  have s2 := L1.cell 2
  have s3 := L1.cell 3
  simp only [List.getElem?_cons_zero, List.getElem?_cons_succ] at s0 s1 s2 s3
  have HO1 := Lib.hid hO1; clear hO1
  go_wp2_with fail
  refine (BS w1 (SlcR.up hW hb1 (Nat.le_refl _))).mono ?_
  rintro e w2 ⟨rfl, hb2⟩
  have L2 := L1.below hb2 L1.lt
  clear s0 s1 s2 s3
  have s0 := L2.cell 0
  have s1 := L2.cell 1
  have s2 := L2.cell 2
  have s3 := L2.cell 3
  simp only [List.getElem?_cons_zero, List.getElem?_cons_succ] at s0 s1 s2 s3
  go_wp2
  refine bodyPost_ret (v := .tuple #[.slice none 0 0, .bool false]) (by simp [results, Tryd.results36, go_sem, *]) rfl (GivesMk.fail ?_)
  rw [hgb]
  exact b0.trans ((bthen hb1 hb2).mono b0s)
set_option maxRecDepth 100000 in
set_option maxHeartbeats 4000000 in
theorem stepB_none6 (A : Option Addr) (c : Nat) (l : List Lot) (i b v : Int) (w : World) (h : LotsR w w.heap.size A l) (G : GoodL l) (ho : findIx l i < 0) :
    Calls Tryd.prog 36 #[.slice A l.length c, .agg #[.int .i64 6, .int .i64 i, .int .i64 b, .int .i64 v]] w (GivesMk w none) := by
  have hoi : decide (0 ≤ findIx l i) = false := decide_eq_false (by omega)
  have b0 := (Below.refl w.heap.size w).alloc (Nat.le_refl _) (.cells #[.int .i64 6, .int .i64 i, .int .i64 b, .int .i64 v] 39)
  have b0s := b0.size
  have L0 := Lies.new w 39 #[.int .i64 6, .int .i64 i, .int .i64 b, .int .i64 v]
  have hW := SlcR.up h b0 (Nat.le_refl _)
  have len := G.len
  have BS := fun W hR => bsId_any A c l i W hR G
  go_enter Tryd.func36, Tryd.ntmps36
  go_wp2_with fail
  generalize w.alloc (.cells #[.int .i64 6, .int .i64 i, .int .i64 b, .int .i64 v] 39) = W at b0 b0s L0 hW ⊢
  generalize hgb : w.heap.size = g at L0 ⊢
  rw [hgb] at b0 b0s
  refine (cloneLot_any A c l W hW (by omega)).mono ?_
  rintro e w1 ⟨A1, c1, rfl, hO1, hb1⟩
  have L1 := L0.below hb1 L0.lt
  have s0 := L1.cell 0
  have s1 := L1.cell 1
  have s2 := L1.cell 2
  have s3 := L1.cell 3
  simp only [List.getElem?_cons_zero, List.getElem?_cons_succ] at s0 s1 s2 s3
  have HO1 := Lib.hid hO1; clear hO1
  go_wp2_with fail
  refine (BS w1 (SlcR.up hW hb1 (Nat.le_refl _))).mono ?_
  rintro e w2 ⟨rfl, hb2⟩
  have L2 := L1.below hb2 L1.lt
  clear s0 s1 s2 s3
  have s0 := L2.cell 0
  have s1 := L2.cell 1
  have s2 := L2.cell 2
  have s3 := L2.cell 3
  simp only [List.getElem?_cons_zero, List.getElem?_cons_succ] at s0 s1 s2 s3
  go_wp2
  refine bodyPost_ret (v := .tuple #[.slice none 0 0, .bool false]) (by simp [results, Tryd.results36, go_sem, *]) rfl (GivesMk.fail ?_)
  rw [hgb]
  exact b0.trans ((bthen hb1 hb2).mono b0s)
theorem Lies.new1 (w : World) (o : Obj) (t : TypeId) (cs : Array Value) : Lies ((w.alloc o).alloc (.cells cs t)) (w.heap.size + 1) t cs.toList := by
  have h := Lies.new (w.alloc o) t cs
  rwa [show (w.alloc o).heap.size = w.heap.size + 1 from Array.size_push _] at h
theorem GivesMk.yes {w w' : World} {A : Option Addr} {c n : Nat} {r : List Lot} (hn : r.length = n) (h : OwnL w' w.heap.size A c r) (hb : Below w.heap.size w w') : GivesMk w (some r) (.returned (.tuple #[.slice A n c, .bool true])) w' := by
  subst hn
  exact ⟨_, rfl, fun r' h' => by injection h' with e; subst e; exact ⟨A, c, rfl, h⟩, hb⟩
theorem bthen' {B : Nat} {a b c : World} (h : Below B a b) (k : Below b.heap.size b c) (hB : B ≤ b.heap.size) : Below B a c := h.trans (k.mono hB)
theorem Sw.either {s : Nat} {C0 C1 : World → Prop} {L : Nat → Bool} {w : World} {P : Prop} (h : Sw s C0 C1 L w) (h0 : C0 w → P) (h1 : C1 w → P) : P := by
  unfold Sw at h; split at h; exact h1 h; exact h0 h
end Go.Proofs.YtkokbmmffkpclaaDoor
