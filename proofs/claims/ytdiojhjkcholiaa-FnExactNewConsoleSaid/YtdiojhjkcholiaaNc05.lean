/- Nc05: the texts FactsN FactsR OffHeld StepOps SpecIn, joined into one file. -/
import Derived.Test.YtdiojhjkcholiaaNc03
import Derived.Test.YtdiojhjkcholiaaNc04

/- A region whose order is drawn: one fact on each operation, which may also speak of one operation that comes ahead; each operation has its own way to turn the world (T k). -/
namespace Go.Proofs.Ytdiojhjkcholiaa
open Go.RowKit

/-- A fact on an operation's value, and on the value of one that comes ahead of it. -/
structure FactN where
  D : Nat
  R : Value → Value → World → Prop
  Br : List Nat := []
def FactN.at (f : FactN) (vs : Nat → Value) (j : Nat) (w : World) : Prop := f.R (vs f.D) (vs j) w
/-- No other operation that may come behind it turns the fact. -/
def FactN.firm (ops : Array Oper) (T : Nat → World → World → Prop) (j : Nat) (f : FactN) : Prop := ∀ i, i ≠ j → i ∉ f.Br → ahead .any ops ops.size j i = false → ∀ u v w w', f.R u v w → T i w w' → f.R u v w'
/-- The fact still stands when operation k comes. -/
def FactN.live (ops : Array Oper) (k : Nat) (f : FactN) : Bool := f.Br.all fun i => i == k || ahead .any ops ops.size i k
def FactN.fine (ops : Array Oper) (j : Nat) (f : FactN) : Prop := (∀ u u' v w, f.R u v w → f.R u' v w) ∨ ahead .any ops ops.size j f.D = true
theorem FactN.eq {V : Value} {vs : Nat → Value} {j : Nat} {w : World} (h : FactN.at ⟨0, fun _ v _ => v = V, []⟩ vs j w) : vs j = V := h
/-- What has come up when operation k comes. -/
structure Gone (ops : Array Oper) (L : Nat → Bool) (k : Nat) : Prop where
  self : L k = false
  done : ∀ j, ahead .any ops ops.size k j = true → L j = true
  open_ : ∀ j, ahead .any ops ops.size j k = true → L j = false
def Listed.but (L : Nat → Bool) (k : Nat) : Nat → Bool := fun j => if j = k then true else L j
section
variable {P : Program} {ops : Array Oper} {Q : Exit → Act → World → Prop}

/-- The walk: a fact R on each operation's value; the facts of those that come ahead are at hand. -/
def wpFactsN (P : Program) (ops : Array Oper) (Q : Exit → Act → World → Prop) (C : (Nat → Bool) → World → Prop) (T : Nat → World → World → Prop) (fr : (Nat → Value) → Act) : Nat → List Oper → List FactN → Prop
  | _, [], Rs => ∀ vs L w, (∀ j, j < ops.size → L j = true) → C L w → (∀ (j : Nat) (R : FactN), R.Br = [] → Rs[j]? = some R → R.at vs j w) → Q .normal (fr vs) w
  | k, o :: l, Rs => ∃ R : FactN, R.fine ops k ∧ R.firm ops T k ∧
    (∀ vs L w, Gone ops L k → C L w → (∀ (j : Nat) (R' : FactN), ahead .any ops ops.size k j = true → R'.live ops k = true → Rs[j]? = some R' → R'.at vs j w) → ∀ K : Act → World → Prop, (∀ a' v w', a' = (fr vs).put o.dst v → R.R (vs R.D) v w' → C (Listed.but L k) w' → T k w w' → K a' w') →
      if Region.wanted o (yielded ops (fr vs).tmps) = true then o.wp P (fr vs) w K Q else K ((fr vs).put o.dst undef) w) ∧
    wpFactsN P ops Q C T fr (k + 1) l (Rs ++ [R])

/-- What the walk gives: the facts, one for each operation. -/
theorem wpFactsN_all {C : (Nat → Bool) → World → Prop} {T : Nat → World → World → Prop} {fr : (Nat → Value) → Act} : ∀ (l : List Oper) (k : Nat) (Rs : List FactN), (∀ i, l[i]? = ops[k + i]?) → Rs.length = k →
    (∀ (j : Nat) (R : FactN), Rs[j]? = some R → R.fine ops j ∧ R.firm ops T j) →
    (∀ (j : Nat) (o : Oper) (R : FactN), j < k → ops[j]? = some o → Rs[j]? = some R → ∀ vs L w, Gone ops L j → C L w → (∀ (j' : Nat) (R' : FactN), ahead .any ops ops.size j j' = true → R'.live ops j = true → j' < j → Rs[j']? = some R' → R'.at vs j' w) → ∀ K : Act → World → Prop, (∀ a' v w', a' = (fr vs).put o.dst v → R.R (vs R.D) v w' → C (Listed.but L j) w' → T j w w' → K a' w') →
      if Region.wanted o (yielded ops (fr vs).tmps) = true then o.wp P (fr vs) w K Q else K ((fr vs).put o.dst undef) w) →
    wpFactsN P ops Q C T fr k l Rs →
    ∃ Rs' : List FactN, Rs'.length = k + l.length ∧ (∀ (j : Nat) (R : FactN), Rs'[j]? = some R → R.fine ops j ∧ R.firm ops T j) ∧
    (∀ (j : Nat) (o : Oper) (R : FactN), ops[j]? = some o → Rs'[j]? = some R → ∀ vs L w, Gone ops L j → C L w → (∀ (j' : Nat) (R' : FactN), ahead .any ops ops.size j j' = true → R'.live ops j = true → j' < j → Rs'[j']? = some R' → R'.at vs j' w) → ∀ K : Act → World → Prop, (∀ a' v w', a' = (fr vs).put o.dst v → R.R (vs R.D) v w' → C (Listed.but L j) w' → T j w w' → K a' w') →
      if Region.wanted o (yielded ops (fr vs).tmps) = true then o.wp P (fr vs) w K Q else K ((fr vs).put o.dst undef) w) ∧
    (∀ vs L w, (∀ j, j < ops.size → L j = true) → C L w → (∀ (j : Nat) (R : FactN), R.Br = [] → Rs'[j]? = some R → R.at vs j w) → Q .normal (fr vs) w)
  | [], k, Rs, hl, hlen, hst, hop, h => by
    refine ⟨Rs, by simpa using hlen, hst, fun j o R ho hR => hop j o R ?_ ho hR, h⟩
    rw [← hlen]; exact (List.getElem?_eq_some_iff.1 hR).1
  | o :: l, k, Rs, hl, hlen, hst, hop, h => by
    obtain ⟨R, hRf, hRs, hRo, hrest⟩ := h
    have ho : ops[k]? = some o := by simpa using (hl 0).symm
    have hold : ∀ j, j < k → (Rs ++ [R])[j]? = Rs[j]? := fun j hj => List.getElem?_append_left (by omega)
    have hnew : (Rs ++ [R])[k]? = some R := by rw [List.getElem?_append_right (by omega), hlen]; simp
    obtain ⟨Rs', h1, h2, h3, h4⟩ := wpFactsN_all l (k + 1) (Rs ++ [R]) (fun i => by have := hl (i + 1); simpa [Nat.add_assoc, Nat.add_comm 1 i] using this) (by simp [hlen])
      (fun j R' hR' => by
        rcases Nat.lt_trichotomy j k with hj | hj | hj
        · rw [hold j hj] at hR'; exact hst j R' hR'
        · subst hj; rw [hnew] at hR'; cases hR'; exact ⟨hRf, hRs⟩
        · rw [List.getElem?_eq_none (by simp [hlen]; omega)] at hR'; cases hR')
      (fun j o' R' hj ho' hR' vs L w hG hC hB K hK => by
        rcases Nat.lt_or_ge j k with hjk | hjk
        · rw [hold j hjk] at hR'
          exact hop j o' R' hjk ho' hR' vs L w hG hC (fun j' R'' ha hv hlt h'' => hB j' R'' ha hv hlt (by rw [hold j' (by omega)]; exact h'')) K hK
        · obtain rfl : j = k := by omega
          rw [ho] at ho'; cases ho'
          rw [hnew] at hR'; cases hR'
          refine hRo vs L w hG hC (fun j' R'' ha hv h'' => ?_) K hK
          have hlt : j' < Rs.length := (List.getElem?_eq_some_iff.1 h'').1
          exact hB j' R'' ha hv (by omega) (by rw [hold j' (by omega)]; exact h''))
      hrest
    exact ⟨Rs', by rw [h1]; simp; omega, h2, h3, h4⟩

theorem getD_set_self {i : Nat} {listed : Array Bool} (h : i < listed.size) : (listed.setIfInBounds i true).getD i false = true := by simp [h]
theorem wpAny_factsN {C : (Nat → Bool) → World → Prop} {T : Nat → World → World → Prop} {a₀ : Act} (hap : dstsApart ops.toList = true) (hdn : edgesDown .any ops = true) (Rs : List FactN) (hlen : Rs.length = ops.size)
    (hst : ∀ (j : Nat) (R : FactN), Rs[j]? = some R → R.fine ops j ∧ R.firm ops T j)
    (hop : ∀ (j : Nat) (o : Oper) (R : FactN), ops[j]? = some o → Rs[j]? = some R → ∀ vs L w, Gone ops L j → C L w → (∀ (j' : Nat) (R' : FactN), ahead .any ops ops.size j j' = true → R'.live ops j = true → j' < j → Rs[j']? = some R' → R'.at vs j' w) → ∀ K : Act → World → Prop, (∀ a' v w', a' = (fillOps vs ops.toList 0 a₀).put o.dst v → R.R (vs R.D) v w' → C (Listed.but L j) w' → T j w w' → K a' w') →
      if Region.wanted o (yielded ops (fillOps vs ops.toList 0 a₀).tmps) = true then o.wp P (fillOps vs ops.toList 0 a₀) w K Q else K ((fillOps vs ops.toList 0 a₀).put o.dst undef) w)
    (hend : ∀ vs L w, (∀ j, j < ops.size → L j = true) → C L w → (∀ (j : Nat) (R : FactN), R.Br = [] → Rs[j]? = some R → R.at vs j w) → Q .normal (fillOps vs ops.toList 0 a₀) w) :
    ∀ (fuel : Nat) (listed : Array Bool) (vs : Nat → Value) (w : World), listed.size = ops.size → unlisted ops.size listed ≤ fuel → Closed .any ops listed → C (fun j => listed.getD j false) w → (∀ (j : Nat) (R : FactN), listed.getD j false = true → (∀ i ∈ R.Br, listed.getD i false = false) → Rs[j]? = some R → R.at vs j w) →
      wpAny P .any ops Q fuel listed (fillOps vs ops.toList 0 a₀) w := by
  have hfin : ∀ (listed : Array Bool) (vs : Nat → Value) (w : World), listed.size = ops.size → C (fun j => listed.getD j false) w → (∀ (j : Nat) (R : FactN), listed.getD j false = true → (∀ i ∈ R.Br, listed.getD i false = false) → Rs[j]? = some R → R.at vs j w) → Region.ready .any ops listed = [] → Q .normal (fillOps vs ops.toList 0 a₀) w :=
    fun listed vs w hs hC hR hr => hend vs _ w (fun j hj => listed_ready hdn hs hr j hj) hC fun j R hbr hj => hR j R (listed_ready hdn hs hr j (by rw [← hlen]; exact (List.getElem?_eq_some_iff.1 hj).1)) (by rw [hbr]; intro i hi; cases hi) hj
  intro fuel
  induction fuel with
  | zero =>
    intro listed vs w hs hu hcl hC hR
    have hr : Region.ready .any ops listed = [] := by
      rw [List.eq_nil_iff_forall_not_mem]
      intro j hj
      obtain ⟨h0, o, ho, _⟩ := mem_ready.1 hj
      have hjs : j < ops.size := (Array.getElem?_eq_some_iff.1 ho).1
      have : unlisted ops.size (listed.setIfInBounds j true) < unlisted ops.size listed := unlisted_set hjs hs (by
        have : j < listed.size := by omega
        simp only [Array.getD, this, ↓reduceDIte] at h0 ⊢; exact h0)
      omega
    exact ⟨hr, hfin listed vs w hs hC hR hr⟩
  | succ fuel ih =>
    intro listed vs w hs hu hcl hC hR
    refine ⟨hfin listed vs w hs hC hR, fun i hi => ?_⟩
    obtain ⟨h0, o, ho, hall⟩ := mem_ready.1 hi
    have hisz : i < ops.size := (Array.getElem?_eq_some_iff.1 ho).1
    have hil : i < listed.size := by omega
    have h0' : listed.getD i false = false := by simp only [Array.getD, hil, ↓reduceDIte] at h0 ⊢; exact h0
    obtain ⟨R, hRi⟩ : ∃ R, Rs[i]? = some R := ⟨Rs[i]'(by omega), List.getElem?_eq_getElem (by omega)⟩
    have hclo : ∀ j, ahead .any ops ops.size i j = true → listed.getD j false = true := fun j ha => ahead_listed hcl ops.size i j (fun o' ho' => by rw [ho] at ho'; cases ho'; exact hall) ha
    have hopn : ∀ j, ahead .any ops ops.size j i = true → listed.getD j false = false := fun j ha => by
      rcases hq : listed.getD j false with _ | _
      · rfl
      · have hl := ahead_listed hcl ops.size j i (fun o' ho' => hcl j o' ho' hq) ha
        rw [h0'] at hl; cases hl
    have hstep := hop i o R ho hRi vs (fun j => listed.getD j false) w ⟨h0', hclo, hopn⟩ hC (fun j' R' ha hv _ hR' => hR j' R' (ahead_listed hcl ops.size i j' (fun o' ho' => by rw [ho] at ho'; cases ho'; exact hall) ha) (fun i' hi' => by
        have hv' := List.all_eq_true.1 hv i' hi'
        simp only [Bool.or_eq_true, beq_iff_eq] at hv'
        rcases hv' with rfl | hv'
        · exact h0'
        · rcases hq : listed.getD i' false with _ | _
          · rfl
          · have hl := ahead_listed hcl ops.size i' i (fun o' ho' => hcl i' o' ho' hq) hv'
            rw [h0'] at hl; cases hl) hR')
      (wpAny P .any ops Q fuel (listed.setIfInBounds i true)) (fun a' v w' ha hRv hC' hT => by
        rw [ha, fillOps_upd ops.toList 0 a₀ vs i o v hap (by simpa using ho), Nat.zero_add]
        have hC9 : C (fun j => (listed.setIfInBounds i true).getD j false) w' := by
          have e : (fun j => (listed.setIfInBounds i true).getD j false) = Listed.but (fun j => listed.getD j false) i := by
            funext j
            unfold Listed.but
            by_cases e : j = i
            · subst e; rw [if_pos rfl]; exact getD_set_self hil
            · rw [if_neg e]; exact getD_set_ne false (Ne.symm e)
          rw [e]; exact hC'
        refine ih _ _ _ (by simpa using hs) ?_ ?_ hC9 ?_
        · have := unlisted_set hisz hs h0'; omega
        · intro j oj hoj hj e he hb
          by_cases hji : j = i
          · subst hji; rw [ho] at hoj; cases hoj; exact getD_set_true (hall e he hb)
          · rw [getD_set_ne false (Ne.symm hji)] at hj; exact getD_set_true (hcl j oj hoj hj e he hb)
        · intro j R' hj hbr hR'
          have key : ∀ (u' : Value), R'.R (vs R'.D) u' w' → R'.R (upd vs i v R'.D) u' w' := fun u' h => by
            by_cases hDi : R'.D = i
            · rcases (hst j R' hR').1 with hf | ha
              · exact hf _ _ _ _ h
              · exfalso
                have hl : listed.getD R'.D false = true := by
                  by_cases hji : j = i
                  · subst hji; exact ahead_listed hcl ops.size j _ (fun o' ho' => by rw [ho] at ho'; cases ho'; exact hall) ha
                  · rw [getD_set_ne false (Ne.symm hji)] at hj
                    exact ahead_listed hcl ops.size j _ (fun o' ho' => hcl j o' ho' hj) ha
                rw [hDi, h0'] at hl; cases hl
            · have : upd vs i v R'.D = vs R'.D := by unfold upd; rw [if_neg hDi]
              rw [this]; exact h
          unfold FactN.at
          by_cases hji : j = i
          · subst hji; rw [hRi] at hR'; cases hR'
            have : upd vs j v j = v := by unfold upd; rw [if_pos rfl]
            rw [this]
            exact key v hRv
          · rw [getD_set_ne false (Ne.symm hji)] at hj
            have hai : ahead .any ops ops.size j i = false := by
              rcases hq : ahead .any ops ops.size j i with _ | _
              · rfl
              · have hl := ahead_listed hcl ops.size j i (fun o' ho' => hcl j o' ho' hj) hq
                rw [h0'] at hl; cases hl
            have hib : i ∉ R'.Br := fun hm => by have h1 := hbr i hm; rw [getD_set_self hil] at h1; cases h1
            have hbr' : ∀ i' ∈ R'.Br, listed.getD i' false = false := fun i' hm => by
              have h1 := hbr i' hm
              by_cases e : i' = i
              · subst e; exact absurd hm hib
              · rwa [getD_set_ne false (Ne.symm e)] at h1
            have h3 := (hst j R' hR').2 i (Ne.symm hji) hib hai _ _ _ _ (hR j R' hj hbr' hR') hT
            have : upd vs i v j = vs j := by unfold upd; rw [if_neg hji]
            rw [this]
            refine key _ ?_
            exact h3)
    unfold wpOp
    simp only [ho]
    split
    · rename_i hw; rw [if_pos hw] at hstep; exact .inl hstep
    · rename_i hw; rw [if_neg hw] at hstep; exact hstep

/-- The region. -/
theorem wp_region_factsN {id : Nat} {a : Act} {w : World} {l : List Oper} (C : (Nat → Bool) → World → Prop) (T : Nat → World → World → Prop) (hm : P.follows .mixedOrders = true) (hap : dstsApart l = true) (hdn : edgesDown .any l.toArray = true)
    (hC : C (fun _ => false) w.drew) (h : wpFactsN P l.toArray Q C T (fun vs => fillOps vs l 0 a) 0 l []) : (Code.region id l.toArray true).wp P Q a w := by
  refine wp_region_any hm ?_
  obtain ⟨Rs, h1, h2, h3, h4⟩ := wpFactsN_all (ops := l.toArray) l 0 [] (by simp) rfl (by simp) (by simp) h
  obtain ⟨vs, hvs⟩ : ∃ vs : Nat → Value, ∀ i o t, l[i]? = some o → o.dst = some t → vs (0 + i) = a.tmps.getD t undef :=
    ⟨fun i => match (l[i]?).bind (·.dst) with | some t => a.tmps.getD t undef | none => undef, fun i o t hi ht => by simp [hi, ht]⟩
  have := wpAny_factsN (P := P) (Q := Q) (ops := l.toArray) (C := C) (T := T) (a₀ := a) hap hdn Rs (by simpa using h1) h2 h3 h4 l.toArray.size (Array.replicate l.toArray.size false) vs w.drew (by simp)
    (Nat.le_trans (List.length_filter_le _ _) (by simp)) (fun j o hj hl => by simp [Array.getD] at hl) (by
      have e : (fun j => (Array.replicate l.toArray.size false).getD j false) = fun _ => false := by funext j; simp [Array.getD]
      rw [e]; exact hC) (fun j R hl => by simp [Array.getD] at hl)
  rwa [fillOps_self vs _ 0 a (by simpa using hvs)] at this

theorem wpFactsN_nil {C : (Nat → Bool) → World → Prop} {T : Nat → World → World → Prop} {fr : (Nat → Value) → Act} {k : Nat} {Rs : List FactN} (h : ∀ vs L w, (∀ j, j < ops.size → L j = true) → C L w → (∀ (j : Nat) (R : FactN), R.Br = [] → Rs[j]? = some R → R.at vs j w) → Q .normal (fr vs) w) : wpFactsN P ops Q C T fr k [] Rs := h
/-- An operation with one value. -/
theorem wpFactsN_val {C : (Nat → Bool) → World → Prop} {T : Nat → World → World → Prop} {fr : (Nat → Value) → Act} {k : Nat} {o : Oper} {l : List Oper} {Rs : List FactN} (V : Value)
    (h1 : ∀ vs L w, Gone ops L k → C L w → (∀ (j : Nat) (R' : FactN), ahead .any ops ops.size k j = true → R'.live ops k = true → Rs[j]? = some R' → R'.at vs j w) → ∀ K : Act → World → Prop, (∀ a' w', a' = (fr vs).put o.dst V → C (Listed.but L k) w' → T k w w' → K a' w') →
      if Region.wanted o (yielded ops (fr vs).tmps) = true then o.wp P (fr vs) w K Q else K ((fr vs).put o.dst undef) w)
    (h2 : wpFactsN P ops Q C T fr (k + 1) l (Rs ++ [⟨0, fun _ v _ => v = V, []⟩])) : wpFactsN P ops Q C T fr k (o :: l) Rs :=
  ⟨⟨0, fun _ v _ => v = V, []⟩, .inl (fun _ _ _ _ h => h), fun _ _ _ _ _ _ _ _ h _ => h, fun vs L w hG hC hB K hK => h1 vs L w hG hC hB K fun a' w' ha hC' hT => hK a' V w' ha rfl hC' hT, h2⟩
/-- An operation whose value has a property. -/
theorem wpFactsN_some {C : (Nat → Bool) → World → Prop} {T : Nat → World → World → Prop} {fr : (Nat → Value) → Act} {k : Nat} {o : Oper} {l : List Oper} {Rs : List FactN} (Br : List Nat) (R : Value → World → Prop) (hR : ∀ i, i ≠ k → i ∉ Br → ahead .any ops ops.size k i = false → ∀ v w w', R v w → T i w w' → R v w')
    (h1 : ∀ vs L w, Gone ops L k → C L w → (∀ (j : Nat) (R' : FactN), ahead .any ops ops.size k j = true → R'.live ops k = true → Rs[j]? = some R' → R'.at vs j w) → ∀ K : Act → World → Prop, (∀ a' v w', a' = (fr vs).put o.dst v → R v w' → C (Listed.but L k) w' → T k w w' → K a' w') →
      if Region.wanted o (yielded ops (fr vs).tmps) = true then o.wp P (fr vs) w K Q else K ((fr vs).put o.dst undef) w)
    (h2 : wpFactsN P ops Q C T fr (k + 1) l (Rs ++ [⟨0, fun _ v w => R v w, Br⟩])) : wpFactsN P ops Q C T fr k (o :: l) Rs :=
  ⟨⟨0, fun _ v w => R v w, Br⟩, .inl (fun _ _ _ _ h => h), fun i hi hb ha _ v w w' h t => hR i hi hb ha v w w' h t, h1, h2⟩
/-- An operation whose value has a property that speaks of an operation ahead. -/
theorem wpFactsN_pair {C : (Nat → Bool) → World → Prop} {T : Nat → World → World → Prop} {fr : (Nat → Value) → Act} {k : Nat} {o : Oper} {l : List Oper} {Rs : List FactN} (Br : List Nat) (D : Nat) (R : Value → Value → World → Prop) (hD : ahead .any ops ops.size k D = true) (hR : ∀ i, i ≠ k → i ∉ Br → ahead .any ops ops.size k i = false → ∀ u v w w', R u v w → T i w w' → R u v w')
    (h1 : ∀ vs L w, Gone ops L k → C L w → (∀ (j : Nat) (R' : FactN), ahead .any ops ops.size k j = true → R'.live ops k = true → Rs[j]? = some R' → R'.at vs j w) → ∀ K : Act → World → Prop, (∀ a' v w', a' = (fr vs).put o.dst v → R (vs D) v w' → C (Listed.but L k) w' → T k w w' → K a' w') →
      if Region.wanted o (yielded ops (fr vs).tmps) = true then o.wp P (fr vs) w K Q else K ((fr vs).put o.dst undef) w)
    (h2 : wpFactsN P ops Q C T fr (k + 1) l (Rs ++ [⟨D, R, Br⟩])) : wpFactsN P ops Q C T fr k (o :: l) Rs :=
  ⟨⟨D, R, Br⟩, .inr hD, hR, h1, h2⟩
end
/-- One thing holds until operation s has been, another from then on. -/
def Sw (s : Nat) (C0 C1 : World → Prop) (L : Nat → Bool) (w : World) : Prop := if L s = true then C1 w else C0 w
section
variable {ops : Array Oper} {s k : Nat} {C0 C1 : World → Prop} {L : Nat → Bool} {w w' : World}
theorem Sw.start (h : C0 w) : Sw s C0 C1 (fun _ => false) w := by unfold Sw; rw [if_neg (by simp)]; exact h
theorem Sw.before (hG : Gone ops L k) (ha : ahead .any ops ops.size s k = true) (h : Sw s C0 C1 L w) : C0 w := by
  unfold Sw at h; rwa [if_neg (by rw [hG.open_ s ha]; simp)] at h
theorem Sw.stay (hG : Gone ops L k) (ha : ahead .any ops ops.size s k = true) (hne : s ≠ k) (h : C0 w) : Sw s C0 C1 (Listed.but L k) w := by
  unfold Sw Listed.but; rw [if_neg (by rw [if_neg hne, hG.open_ s ha]; simp)]; exact h
theorem Sw.here (hG : Gone ops L s) (h : Sw s C0 C1 L w) : C0 w := by unfold Sw at h; rwa [if_neg (by rw [hG.self]; simp)] at h
theorem Sw.turn (h : C1 w) : Sw s C0 C1 (Listed.but L s) w := by unfold Sw Listed.but; rw [if_pos (if_pos rfl)]; exact h
theorem Sw.after (hG : Gone ops L k) (ha : ahead .any ops ops.size k s = true) (h : Sw s C0 C1 L w) : C1 w := by unfold Sw at h; rwa [if_pos (hG.done s ha)] at h
theorem Sw.on (hG : Gone ops L k) (ha : ahead .any ops ops.size k s = true) (h : C1 w) : Sw s C0 C1 (Listed.but L k) w := by
  unfold Sw Listed.but; rw [if_pos (by rw [hG.done s ha]; simp)]; exact h
theorem Sw.both (hne : s ≠ k) (h0 : C0 w → C0 w') (h1 : C1 w → C1 w') (h : Sw s C0 C1 L w) : Sw s C0 C1 (Listed.but L k) w' := by
  unfold Sw Listed.but at *
  rw [if_neg hne]
  split at h
  · rename_i e; rw [if_pos e]; exact h1 h
  · rename_i e; rw [if_neg e]; exact h0 h
theorem Sw.done (hL : ∀ j, j < ops.size → L j = true) (hs : s < ops.size) (h : Sw s C0 C1 L w) : C1 w := by unfold Sw at h; rwa [if_pos (hL s hs)] at h
end
end Go.Proofs.Ytdiojhjkcholiaa

/- The facts law with its facts the other way round: cheap look-ups. -/
namespace Go.Proofs.Ytdiojhjkcholiaa
open Go.RowKit

section
variable {P : Program} {ops : Array Oper} {Q : Exit → Act → World → Prop}
/-- The same walk, the facts' list the other way round (its look-ups stay cheap). -/
def wpFactsR (P : Program) (ops : Array Oper) (Q : Exit → Act → World → Prop) (C : (Nat → Bool) → World → Prop) (T : Nat → World → World → Prop) (fr : (Nat → Value) → Act) : Nat → List Oper → List FactN → Prop
  | k, [], Rs => ∀ vs L w, (∀ j, j < ops.size → L j = true) → C L w → (∀ (j : Nat) (R : FactN), R.Br = [] → Rs[k - 1 - j]? = some R → j < k → R.at vs j w) → Q .normal (fr vs) w
  | k, o :: l, Rs => ∃ R : FactN, R.fine ops k ∧ R.firm ops T k ∧
    (∀ vs L w, Gone ops L k → C L w → (∀ (j : Nat) (R' : FactN), ahead .any ops ops.size k j = true → R'.live ops k = true → Rs[k - 1 - j]? = some R' → j < k → R'.at vs j w) → ∀ K : Act → World → Prop, (∀ a' v w', a' = (fr vs).put o.dst v → R.R (vs R.D) v w' → C (Listed.but L k) w' → T k w w' → K a' w') →
      if Region.wanted o (yielded ops (fr vs).tmps) = true then o.wp P (fr vs) w K Q else K ((fr vs).put o.dst undef) w) ∧
    wpFactsR P ops Q C T fr (k + 1) l (R :: Rs)
theorem rev_look {Rs : List FactN} {k j : Nat} {R : FactN} (hk : Rs.length = k) (h : Rs[k - 1 - j]? = some R) (hj : j < k) : Rs.reverse[j]? = some R := by
  rw [List.getElem?_reverse (by omega), hk]; exact h
theorem wpFactsR_N {C : (Nat → Bool) → World → Prop} {T : Nat → World → World → Prop} {fr : (Nat → Value) → Act} : ∀ (l : List Oper) (k : Nat) (Rs : List FactN), Rs.length = k → wpFactsR P ops Q C T fr k l Rs → wpFactsN P ops Q C T fr k l Rs.reverse
  | [], _, _, hk, h => fun vs L w hL hC hB => h vs L w hL hC fun j R hb hR hj => hB j R hb (rev_look hk hR hj)
  | _ :: l, k, Rs, hk, ⟨R, h1, h2, h3, h4⟩ => ⟨R, h1, h2, fun vs L w hG hC hB K hK => h3 vs L w hG hC (fun j R' ha hv hR hj => hB j R' ha hv (rev_look hk hR hj)) K hK, by
      have := wpFactsR_N l (k + 1) (R :: Rs) (by simp [hk]) h4
      rwa [List.reverse_cons] at this⟩
theorem wp_region_factsR {id : Nat} {a : Act} {w : World} {l : List Oper} (C : (Nat → Bool) → World → Prop) (T : Nat → World → World → Prop) (hm : P.follows .mixedOrders = true) (hap : dstsApart l = true) (hdn : edgesDown .any l.toArray = true)
    (hC : C (fun _ => false) w.drew) (h : wpFactsR P l.toArray Q C T (fun vs => fillOps vs l 0 a) 0 l []) : (Code.region id l.toArray true).wp P Q a w :=
  wp_region_factsN C T hm hap hdn hC (wpFactsR_N l 0 [] rfl h)
theorem wpFactsR_nil {C : (Nat → Bool) → World → Prop} {T : Nat → World → World → Prop} {fr : (Nat → Value) → Act} {k : Nat} {Rs : List FactN} (h : ∀ vs L w, (∀ j, j < ops.size → L j = true) → C L w → (∀ (j : Nat) (R : FactN), R.Br = [] → Rs[k - 1 - j]? = some R → j < k → R.at vs j w) → Q .normal (fr vs) w) : wpFactsR P ops Q C T fr k [] Rs := h
theorem wpFactsR_val {C : (Nat → Bool) → World → Prop} {T : Nat → World → World → Prop} {fr : (Nat → Value) → Act} {k : Nat} {o : Oper} {l : List Oper} {Rs : List FactN} (V : Value)
    (h1 : ∀ vs L w, Gone ops L k → C L w → (∀ (j : Nat) (R' : FactN), ahead .any ops ops.size k j = true → R'.live ops k = true → Rs[k - 1 - j]? = some R' → j < k → R'.at vs j w) → ∀ K : Act → World → Prop, (∀ a' w', a' = (fr vs).put o.dst V → C (Listed.but L k) w' → T k w w' → K a' w') →
      if Region.wanted o (yielded ops (fr vs).tmps) = true then o.wp P (fr vs) w K Q else K ((fr vs).put o.dst undef) w)
    (h2 : wpFactsR P ops Q C T fr (k + 1) l (⟨0, fun _ v _ => v = V, []⟩ :: Rs)) : wpFactsR P ops Q C T fr k (o :: l) Rs :=
  ⟨⟨0, fun _ v _ => v = V, []⟩, .inl (fun _ _ _ _ h => h), fun _ _ _ _ _ _ _ _ h _ => h, fun vs L w hG hC hB K hK => h1 vs L w hG hC hB K fun a' w' ha hC' hT => hK a' V w' ha rfl hC' hT, h2⟩
theorem wpFactsR_some {C : (Nat → Bool) → World → Prop} {T : Nat → World → World → Prop} {fr : (Nat → Value) → Act} {k : Nat} {o : Oper} {l : List Oper} {Rs : List FactN} (Br : List Nat) (R : Value → World → Prop) (hR : ∀ i, i ≠ k → i ∉ Br → ahead .any ops ops.size k i = false → ∀ v w w', R v w → T i w w' → R v w')
    (h1 : ∀ vs L w, Gone ops L k → C L w → (∀ (j : Nat) (R' : FactN), ahead .any ops ops.size k j = true → R'.live ops k = true → Rs[k - 1 - j]? = some R' → j < k → R'.at vs j w) → ∀ K : Act → World → Prop, (∀ a' v w', a' = (fr vs).put o.dst v → R v w' → C (Listed.but L k) w' → T k w w' → K a' w') →
      if Region.wanted o (yielded ops (fr vs).tmps) = true then o.wp P (fr vs) w K Q else K ((fr vs).put o.dst undef) w)
    (h2 : wpFactsR P ops Q C T fr (k + 1) l (⟨0, fun _ v w => R v w, Br⟩ :: Rs)) : wpFactsR P ops Q C T fr k (o :: l) Rs :=
  ⟨⟨0, fun _ v w => R v w, Br⟩, .inl (fun _ _ _ _ h => h), fun i hi hb ha _ v w w' h t => hR i hi hb ha v w w' h t, h1, h2⟩
theorem wpFactsR_pair {C : (Nat → Bool) → World → Prop} {T : Nat → World → World → Prop} {fr : (Nat → Value) → Act} {k : Nat} {o : Oper} {l : List Oper} {Rs : List FactN} (Br : List Nat) (D : Nat) (R : Value → Value → World → Prop) (hD : ahead .any ops ops.size k D = true) (hR : ∀ i, i ≠ k → i ∉ Br → ahead .any ops ops.size k i = false → ∀ u v w w', R u v w → T i w w' → R u v w')
    (h1 : ∀ vs L w, Gone ops L k → C L w → (∀ (j : Nat) (R' : FactN), ahead .any ops ops.size k j = true → R'.live ops k = true → Rs[k - 1 - j]? = some R' → j < k → R'.at vs j w) → ∀ K : Act → World → Prop, (∀ a' v w', a' = (fr vs).put o.dst v → R (vs D) v w' → C (Listed.but L k) w' → T k w w' → K a' w') →
      if Region.wanted o (yielded ops (fr vs).tmps) = true then o.wp P (fr vs) w K Q else K ((fr vs).put o.dst undef) w)
    (h2 : wpFactsR P ops Q C T fr (k + 1) l (⟨D, R, Br⟩ :: Rs)) : wpFactsR P ops Q C T fr k (o :: l) Rs :=
  ⟨⟨D, R, Br⟩, .inr hD, hR, h1, h2⟩
end
end Go.Proofs.Ytdiojhjkcholiaa

/- Marks on an office whose rows are a call's own, and their reading. -/
namespace Go.Proofs.Ytdiojhjkcholiaa
open Go.RowKit

theorem Lies.apart {w : World} {g g' : Nat} {t t' : TypeId} {cs cs' : List Value} (h : Lies w g t cs) (h' : Lies w g' t' cs') (hne : t ≠ t') : g ≠ g' := by
  intro e
  subst e
  unfold Lies at h h'
  rw [h] at h'
  injection h' with h'; injection h' with _ h2; exact hne h2
/-- A row of another type is written: this one stays. -/
theorem OwnS.two {w w' : World} {B B' : Nat} {t t' : TypeId} {k k' : Nat} {A A' : Option Addr} {n n' : Nat} {cs cs' : List Value} (h : OwnS w B t k A n cs) (h' : OwnS w B' t' k' A' n' cs') (hne : t ≠ t') (hg : w.grownBy w' (A'.map (·.block))) : OwnS w' B t k A n cs := by
  obtain ⟨hl, hn, h0 | ⟨g, rest, hA, hg1, hh⟩⟩ := h
  · exact ⟨hl, hn, .inl h0⟩
  · refine ⟨hl, hn, .inr ⟨g, rest, hA, hg1, hh.kept hg ?_⟩⟩
    obtain ⟨_, _, ⟨rfl, _⟩ | ⟨g', rest', rfl, _, hh'⟩⟩ := h'
    · simp
    · intro e
      have e : some g = some g' := e
      injection e with e
      exact hh.apart hh' hne e
theorem ne_to : 74 ≠ 100 := by decide
theorem ne_ot : 100 ≠ 74 := by decide

theorem OwnS.apartB {w : World} {B : Nat} {t t' : TypeId} {k : Nat} {A : Option Addr} {n : Nat} {cs cs' : List Value} (h : OwnS w B t k A n cs) {g : Nat} (hL : Lies w g t' cs') (hne : t' ≠ t) : some g ≠ A.map (·.block) := by
  obtain ⟨_, _, ⟨rfl, _⟩ | ⟨g', rest', rfl, _, hh'⟩⟩ := h
  · simp
  · intro e
    have e : some g = some g' := e
    injection e with e
    exact hL.apart hh' hne e
set_option maxHeartbeats 1000000 in
theorem markOwn_any (TA OA : Option Addr) (tc oc n m B : Nat) (got sold missed k0 : Int) (cs ds : List Value) (w : World) (hk : -1000 ≤ k0) (hk' : k0 ≤ 1000) (hn : n ≤ 1000000) (hm : m ≤ 1000000) (hB : B ≤ w.heap.size)
    (hT : OwnS w B 74 2 TA n cs) (hO : OwnS w B 100 3 OA m ds) :
    Calls Try.prog 18 #[.agg #[.slice TA n tc, .slice OA m oc, .int .i64 got, .int .i64 sold, .int .i64 missed], .int .i64 k0] w fun e w' => e = .returned (.int .i64 (k0 + 2 * n + 3 * m)) ∧
      OwnS w' B 74 2 TA n (encIs (ramp k0 (n * 2))) ∧ OwnS w' B 100 3 OA m (encIs (ramp (k0 + 2 * n) (m * 3))) ∧ Below B w w' ∧ ∀ g cs', Lies w g 25 cs' → Lies w' g 25 cs' := by
  have L0 := Lies.new w 25 #[.slice TA n tc, .slice OA m oc, .int .i64 got, .int .i64 sold, .int .i64 missed]
  have b0 := (Below.refl B w).alloc hB (.cells #[.slice TA n tc, .slice OA m oc, .int .i64 got, .int .i64 sold, .int .i64 missed] 25)
  have hal := (Below.refl w.heap.size w).alloc (Nat.le_refl _) (.cells #[.slice TA n tc, .slice OA m oc, .int .i64 got, .int .i64 sold, .int .i64 missed] 25)
  have hT1 := hT.then hal
  have hO1 := hO.then hal
  clear hT hO hal
  have hK : ∀ g cs', Lies w g 25 cs' → Lies (w.alloc (.cells #[.slice TA n tc, .slice OA m oc, .int .i64 got, .int .i64 sold, .int .i64 missed] 25)) g 25 cs' := fun g cs' h => h.alloc _
  go_enter Try.func18, Try.ntmps18
  go_wp2_with fail
  generalize w.alloc (.cells #[.slice TA n tc, .slice OA m oc, .int .i64 got, .int .i64 sold, .int .i64 missed] 25) = W at b0 L0 hT1 hO1 hK ⊢
  refine (markTrays_any TA tc n B k0 cs W (by omega) (by omega) (by omega) hT1).mono ?_
  rintro e w1 ⟨rfl, o1, gr1⟩
  have m1 := b0.grown gr1 (Nat.le_trans hB (by have := b0.size; omega)) (fun g hg => hT1.at_ge g hg)
  have hO2 := hO1.two hT1 ne_ot gr1
  have L1 := L0.kept gr1 (hT1.apartB L0 (by decide))
  have hK1 : ∀ g cs', Lies w g 25 cs' → Lies w1 g 25 cs' := fun g cs' h => (hK g cs' h).kept gr1 (hT1.apartB (hK g cs' h) (by decide))
  have c1 := L1.cell 1
  simp only [List.getElem?_cons_zero, List.getElem?_cons_succ] at c1
  go_wp2_with fail
  refine (markOutings_any OA oc m B _ ds w1 (by omega) (by omega) (by omega) hO2).mono ?_
  rintro e w2 ⟨rfl, o2, gr2⟩
  have m2 := m1.grown gr2 (Nat.le_trans hB m1.size) (fun g hg => hO2.at_ge g hg)
  have o3 := o1.two hO2 ne_to gr2
  have hK2 : ∀ g cs', Lies w g 25 cs' → Lies w2 g 25 cs' := fun g cs' h => (hK1 g cs' h).kept gr2 (hO2.apartB (hK1 g cs' h) (by decide))
  have HK := Lib.hid hK2
  clear hK hK1 hK2
  go_wp2
  go_ret
  exact ⟨rfl, o3, o2, m2, HK.out⟩

set_option maxHeartbeats 1000000 in
theorem heldOwn_any (TA OA : Option Addr) (tc oc n m : Nat) (got sold missed k0 : Int) (w : World) (hk : 0 ≤ k0) (hk' : k0 ≤ 1000) (hn : n ≤ 1000000) (hm : m ≤ 1000000)
    (hT : SlcR w w.heap.size 2 TA n (encIs (ramp k0 (n * 2)))) (hO : SlcR w w.heap.size 3 OA m (encIs (ramp (k0 + 2 * n) (m * 3)))) :
    Calls Try.prog 19 #[.agg #[.slice TA n tc, .slice OA m oc, .int .i64 got, .int .i64 sold, .int .i64 missed], .int .i64 k0] w fun e w' => e = .returned (.int .i64 (k0 + 2 * n + 3 * m)) ∧ Below w.heap.size w w' := by
  have L0 := Lies.new w 25 #[.slice TA n tc, .slice OA m oc, .int .i64 got, .int .i64 sold, .int .i64 missed]
  have hal := (Below.refl w.heap.size w).alloc (Nat.le_refl _) (.cells #[.slice TA n tc, .slice OA m oc, .int .i64 got, .int .i64 sold, .int .i64 missed] 25)
  have hT1 := SlcR.up hT hal (Nat.le_refl _)
  have hO1 := SlcR.up hO hal (Nat.le_refl _)
  clear hT hO
  go_enter Try.func19, Try.ntmps19
  go_wp2_with fail
  generalize w.alloc (.cells #[.slice TA n tc, .slice OA m oc, .int .i64 got, .int .i64 sold, .int .i64 missed] 25) = W at hal L0 hT1 hO1 ⊢
  refine (heldTrays_any TA tc n k0 W (by omega) (by omega) (by omega) hT1).mono ?_
  rintro e w1 ⟨rfl, hb1⟩
  have L1 := L0.below hb1 L0.lt
  have c1 := L1.cell 1
  simp only [List.getElem?_cons_zero, List.getElem?_cons_succ] at c1
  have hO2 := SlcR.up hO1 hb1 (Nat.le_refl _)
  go_wp2_with fail
  refine (heldOutings_any OA oc m (k0 + 2 * n) w1 (by omega) (by omega) (by omega) hO2).mono ?_
  rintro e w2 ⟨rfl, hb2⟩
  go_wp2
  go_ret
  exact ⟨rfl, bthen hal (bthen hb1 hb2)⟩
end Go.Proofs.Ytdiojhjkcholiaa

/- Operations of a drawn region: slicing a slice; appending to a row of the call's own (no program in sight). -/
namespace Go.Proofs.Ytdiojhjkcholiaa
open Go.RowKit

section
variable {P : Program} {ops : Array Oper} {tm : Array Value} {o : Oper} {a : Act} {w : World} {K : Act → World → Prop} {Q : Exit → Act → World → Prop} {E : Prop}
theorem elem_of {t e : TypeId} (ht : P.underlying t = some (.slice e)) : P.underlying t = some (.slice (P.elem t)) ∧ P.elem t = e := by
  have : P.elem t = e := by simp [Program.elem, ht]
  exact ⟨by rw [this]; exact ht, this⟩
theorem SlcR.take {B k n : Nat} {A : Option Addr} {cs : List Value} (h : SlcR w B k A n cs) (i : Nat) (hi : i ≤ n) : SlcR w B k A i (cs.take (i * k)) := by
  have hm : i * k ≤ n * k := Nat.mul_le_mul_right k hi
  refine ⟨by rw [List.length_take, h.len]; omega, by have := h.big; omega, fun h0 => ?_⟩
  obtain ⟨b, off, e, hb, hc⟩ := h.at_ (by omega)
  exact ⟨b, off, e, hb, fun j u hu => hc j u (by rw [List.getElem?_take] at hu; split at hu; exact hu; cases hu)⟩
theorem SlcR.drop {B k n : Nat} {A A' : Option Addr} {cs : List Value} (h : SlcR w B k A n cs) (i : Nat) (hi : i ≤ n) (hA : i < n → A' = A.map fun p => p.add (i * k)) : SlcR w B k A' (n - i) (cs.drop (i * k)) := by
  refine ⟨by rw [List.length_drop, h.len, Nat.sub_mul], by have := h.big; omega, fun h0 => ?_⟩
  obtain ⟨b, off, e, hb, hc⟩ := h.at_ (by omega)
  refine ⟨b, off + i * k, ?_, hb, fun j u hu => ?_⟩
  · rw [hA (by omega), e]; simp only [Option.map_some, addr_add]
  · rw [List.getElem?_drop] at hu
    have := hc _ u hu
    rwa [Nat.add_assoc]
theorem info_size {e : TypeId} {s : Nat} (hs : (P.info? e).map (·.size) = some s) : ∃ inf, P.info? e = some inf ∧ inf.size = s := by
  cases hq : P.info? e with
  | none => simp [hq] at hs
  | some inf => exact ⟨inf, rfl, by simpa [hq] using hs⟩
theorem map_add0 (A : Option Addr) : A.map (fun p => p.add 0) = A := by cases A <;> simp [Addr.add]
theorem run_sliceTo {t e : TypeId} (ht : P.underlying t = some (.slice e)) {s : Nat} (hs : (P.info? e).map (·.size) = some s) (A : Option Addr) (n c i : Nat) (hi : i ≤ n) (hc : n ≤ c) (w : World) :
    (Instr.slice t (.slice A n c) none (some (.int .i64 (i : Int))) none).run P w = .ok (.slice A i c) w := by
  obtain ⟨h1, h2⟩ := elem_of ht
  obtain ⟨inf, hin, hsz⟩ := info_size hs
  rw [run_slice_h (P := P) (w := w) t A n c h1 .i64 (i : Int) (by omega) (by omega), h2]
  simp [sizeOf, typeInfo, hin, sliced, map_add0]
theorem run_sliceFrom {t e : TypeId} (ht : P.underlying t = some (.slice e)) {s : Nat} (hs : (P.info? e).map (·.size) = some s) (A : Option Addr) (n c i : Nat) (hi : i ≤ n) (w : World) :
    (Instr.slice t (.slice A n c) (some (.int .i64 (i : Int))) none none).run P w = .ok (.slice (if c = i then A else A.map (fun p => p.add (i * s))) (n - i) (c - i)) w := by
  obtain ⟨h1, h2⟩ := elem_of ht
  obtain ⟨inf, hin, hsz⟩ := info_size hs
  rw [run_slice_l (P := P) (w := w) t A n c h1 .i64 (i : Int) (by omega) (by omega), h2]
  simp [sizeOf, typeInfo, hin, sliced, hsz]
/-- 'xs[:i]'. -/
theorem step_sliceTo (hg : o.guard = none) (t e : TypeId) (x y : Operand) (ho : o.op = .slice t x none (some y) none) (ht : P.underlying t = some (.slice e)) (s : Nat) (hs : (P.info? e).map (·.size) = some s)
    (A : Option Addr) (n c i : Nat) (hx : a.eval x = .slice A n c) (hy : a.eval y = .int .i64 (i : Int)) (hi : i ≤ n) (hc : n ≤ c)
    (h : K (a.put o.dst (.slice A i c)) w) : if Region.wanted o (yielded ops tm) = true then o.wp P a w K Q else E := by
  have hw : ∀ tm : Array Value, Region.wanted o (yielded ops tm) = true := fun tm => by simp [Region.wanted, hg]
  rw [if_pos (hw _)]
  unfold Oper.wp execOp
  simp only [ho, hx, Option.map_some, Option.map_none, hy, run_sliceAt_slice (P := P) (w := w) t _ _ _ _ (elem_of ht).1, run_sliceTo ht hs A n c i hi hc w, Sem.run_bind, Sem.run_pure, Result.andThen_ok]
  exact h
/-- 'xs[i:]'. -/
theorem step_sliceFrom (hg : o.guard = none) (t e : TypeId) (x y : Operand) (ho : o.op = .slice t x (some y) none none) (ht : P.underlying t = some (.slice e)) (s : Nat) (hs : (P.info? e).map (·.size) = some s)
    (A : Option Addr) (n c i : Nat) (hx : a.eval x = .slice A n c) (hy : a.eval y = .int .i64 (i : Int)) (hi : i ≤ n) (hc : n ≤ c)
    (h : ∀ A', (∀ (W : World) (B : Nat) (cs : List Value), SlcR W B s A n cs → SlcR W B s A' (n - i) (cs.drop (i * s))) → K (a.put o.dst (.slice A' (n - i) (c - i))) w) : if Region.wanted o (yielded ops tm) = true then o.wp P a w K Q else E := by
  have hw : ∀ tm : Array Value, Region.wanted o (yielded ops tm) = true := fun tm => by simp [Region.wanted, hg]
  rw [if_pos (hw _)]
  unfold Oper.wp execOp
  simp only [ho, hx, Option.map_some, Option.map_none, hy, run_sliceAt_slice (P := P) (w := w) t _ _ _ _ (elem_of ht).1, run_sliceFrom ht hs A n c i hi w, Sem.run_bind, Sem.run_pure, Result.andThen_ok]
  exact h _ fun W B cs hr => hr.drop i hi fun hlt => by rw [if_neg (by omega)]
/-- 'append(s, xs...)', s the call's own. -/
theorem step_cat (hg : o.guard = none) (s x : Operand) (t : TypeId) (ho : o.op = .call { callee := .builtin .append, args := #[s, x], argTypes := #[t, t] })
    (e : TypeId) (z : Value) (k bytes : Nat) (ht : P.underlying t = some (.slice e)) (hinfo : (P.info? e).map (fun i => (i.zero, i.size, i.bytes)) = some (some z, k, bytes)) (hzs : z.cells.size = k) (hsz : 0 < k) (hby : bytes ≤ 1000)
    (B : Nat) (v : Value) (n : Nat) (xs : List Value) (hs : a.eval s = v) (hown : w.ownsRow B e k v n xs)
    (S : Nat) (A : Option Addr) (m c : Nat) (cs : List Value) (hx : a.eval x = .slice A m c) (hr : SlcR w S k A m cs) (h1 : ∀ u ∈ cs, u.oneCell' = true)
    (hn : n + m ≤ 1000000000) (hbase : B ≤ w.heap.size)
    (h : ∀ A' c' w', w'.ownsRow B e k (.slice A' (n + m) c') (n + m) (xs ++ cs) → w.grownBy w' v.ownBlock → Below B w w' → K (a.put o.dst (.slice A' (n + m) c')) w') : if Region.wanted o (yielded ops tm) = true then o.wp P a w K Q else E := by
  have hw : ∀ tm : Array Value, Region.wanted o (yielded ops tm) = true := fun tm => by simp [Region.wanted, hg]
  rw [if_pos (hw _)]
  refine wp_cat s x t ho e z k bytes ht hinfo hzs hsz hby B v n xs hs (Lib.hid hown) S A m c cs hx (Lib.hid hr) h1 hn hbase fun v' w' h2 h3 h4 _ => ?_
  obtain ⟨A', c', rfl⟩ := ownsRow_slice h2.out
  exact h A' c' w' h2.out h3 h4
theorem ownsRow_cap {B k n : Nat} {e : TypeId} {A : Option Addr} {c : Nat} {xs : List Value} (h : w.ownsRow B e k (.slice A n c) n xs) : n ≤ c := by
  obtain ⟨_, ⟨h0, h1⟩ | ⟨g, cap, cur, hv, _, _, hc, _⟩⟩ := h
  · injection h0 with _ h2 h3; omega
  · injection hv with _ _ h3; omega
end
end Go.Proofs.Ytdiojhjkcholiaa

/- More or fewer stamps in a tray, in the reference. (Printed by gen_specin.py) -/
namespace Go.Proofs.Ytdiojhjkcholiaa
open Go.RowKit

/-- An office is stored into a variable. -/
def stOff (W : World) (g : Nat) (v0 v1 v2 v3 v4 : Value) : World := ((((W.setCell ⟨g, 0, none⟩ v0).setCell ⟨g, 1, none⟩ v1).setCell ⟨g, 2, none⟩ v2).setCell ⟨g, 3, none⟩ v3).setCell ⟨g, 4, none⟩ v4
section
variable {W : World} {g : Nat} {a b c d e v0 v1 v2 v3 v4 : Value}
theorem stOff_is (h : Lies W g 25 [a, b, c, d, e]) : Lies (stOff W g v0 v1 v2 v3 v4) g 25 [v0, v1, v2, v3, v4] := ((((h.set 0 v0).set 1 v1).set 2 v2).set 3 v3).set 4 v4
theorem stOff_grown : W.grownBy (stOff W g v0 v1 v2 v3 v4) (some g) := grown_set (grown_set (grown_set (grown_set (grown_set (World.grownBy.refl W (some g))))))
theorem stOff_row {B k n : Nat} {t : TypeId} {v : Value} {xs : List Value} (h : Lies W g 25 [a, b, c, d, e]) (ho : W.ownsRow B t k v n xs) (hne : t ≠ 25) : (stOff W g v0 v1 v2 v3 v4).ownsRow B t k v n xs := ownsRow_keptG ho h hne stOff_grown
theorem stOff_below {B : Nat} (h : Lies W g 25 [a, b, c, d, e]) (hB : B ≤ g) : Below B W (stOff W g v0 v1 v2 v3 v4) :=
  (Below.refl B W).grown stOff_grown (Nat.le_of_lt (Nat.lt_of_le_of_lt hB h.lt)) (by rintro _ ⟨⟩; exact hB)
theorem stOff_other {g' : Nat} {t : TypeId} {cs : List Value} (h : Lies W g' t cs) (hne : g' ≠ g) : Lies (stOff W g v0 v1 v2 v3 v4) g' t cs := h.kept stOff_grown (by simpa using hne)
end
theorem GivesOff.of {w w' : World} {e : Ending} {y : Oc} {TA OA : Option Addr} {tc oc m k : Nat} (hm : y.t.length = m) (hk : y.o.length = k) (he : e = .returned (.agg #[.slice TA m tc, .slice OA k oc, .int .i64 y.got, .int .i64 y.sold, .int .i64 y.missed]))
    (h8 : w'.ownsRow w.heap.size 74 2 (.slice TA m tc) y.t.length (y.t.flatMap Tray.enc)) (h9 : w'.ownsRow w.heap.size 100 3 (.slice OA k oc) y.o.length (y.o.flatMap Outing.enc)) (hb : Below w.heap.size w w') : GivesOff w y e w' := by
  subst hm; subst hk
  exact ⟨TA, tc, OA, oc, he, h8, h9, hb⟩

set_option maxRecDepth 100000 in
set_option maxHeartbeats 4000000 in
theorem l32In_old (x : Off) (kd n : Int) (w : World) (h : OffR w w.heap.size x) (tl : x.t.length ≤ 1000000) (ol : x.o.length ≤ 1000000) (hbd : ∀ i (hi : i < x.t.length), -1000000000 ≤ x.t[i].c ∧ x.t[i].c ≤ 1000000000) (hn : -1000000000 ≤ n ∧ n ≤ 1000000000) (hx : 0 ≤ trayIx x.t kd) :
    Calls Try.prog 72 #[x.val, .int .i64 kd, .int .i64 n] w (GivesOff w ⟨inTrays x.t kd n, x.o, x.got, x.sold, x.missed⟩) := by

  obtain ⟨i, hi⟩ : ∃ i : Nat, trayIx x.t kd = i := ⟨(trayIx x.t kd).toNat, by omega⟩
  have hil : i < x.t.length := by have := trayIx_lt hx; omega
  have hin := inTrays_at (n := n) hi hil
  obtain ⟨n1, n2⟩ := hn
  obtain ⟨u1, u2⟩ := hbd i hil
  clear hbd hx
  obtain ⟨tr, htr⟩ : ∃ tr, tr = x.t[i] := ⟨_, rfl⟩
  rw [← htr] at hin u1 u2
  have HI := Lib.hid hin; clear hin
  have L1 := (Lies.new w 25 #[.slice x.TA x.t.length x.tc, .slice x.OA x.o.length x.oc, .int .i64 x.got, .int .i64 x.sold, .int .i64 x.missed]).alloc (.cells #[.slice none 0 0, .slice none 0 0, .int .i64 0, .int .i64 0, .int .i64 0] 25)
  have L2 := Lies.new1 w (.cells #[.slice x.TA x.t.length x.tc, .slice x.OA x.o.length x.oc, .int .i64 x.got, .int .i64 x.sold, .int .i64 x.missed] 25) 25 #[.slice none 0 0, .slice none 0 0, .int .i64 0, .int .i64 0, .int .i64 0]
  have b1 := (Below.refl w.heap.size w).alloc (Nat.le_refl _) (.cells #[.slice x.TA x.t.length x.tc, .slice x.OA x.o.length x.oc, .int .i64 x.got, .int .i64 x.sold, .int .i64 x.missed] 25)
  have b2 := b1.alloc b1.size (.cells #[.slice none 0 0, .slice none 0 0, .int .i64 0, .int .i64 0, .int .i64 0] 25)
  clear b1
  go_enter Try.func72, Try.ntmps72
  go_wp2_with fail
  generalize ((w.alloc (.cells #[.slice x.TA x.t.length x.tc, .slice x.OA x.o.length x.oc, .int .i64 x.got, .int .i64 x.sold, .int .i64 x.missed] 25)).alloc (.cells #[.slice none 0 0, .slice none 0 0, .int .i64 0, .int .i64 0, .int .i64 0] 25)) = W at L1 L2 b2 ⊢
  have hR := h.up b2 (Nat.le_refl _)
  refine (l32Own_any x W hR tl ol).mono ?_
  rintro e W2 ⟨TA, tc, OA, oc, he, hT, hO, hb2⟩
  have he : e = .returned (.agg #[.slice TA x.t.length tc, .slice OA x.o.length oc, .int .i64 x.got, .int .i64 x.sold, .int .i64 x.missed]) := he
  subst he
  simp only [Off.c] at hT hO
  have L1a := (L1.below hb2 L1.lt).alloc (.cells #[.slice TA x.t.length tc, .slice OA x.o.length oc, .int .i64 x.got, .int .i64 x.sold, .int .i64 x.missed] 25)
  have L2a := (L2.below hb2 L2.lt).alloc (.cells #[.slice TA x.t.length tc, .slice OA x.o.length oc, .int .i64 x.got, .int .i64 x.sold, .int .i64 x.missed] 25)
  have P1 := Lies.new W2 25 #[.slice TA x.t.length tc, .slice OA x.o.length oc, .int .i64 x.got, .int .i64 x.sold, .int .i64 x.missed]
  have hal := (Below.refl W2.heap.size W2).alloc (Nat.le_refl _) (.cells #[.slice TA x.t.length tc, .slice OA x.o.length oc, .int .i64 x.got, .int .i64 x.sold, .int .i64 x.missed] 25)
  have hT3 := ownsRow_lower (ownsRow_below hT hal) b2.size
  have hO3 := ownsRow_lower (ownsRow_below hO hal) b2.size
  have b3 := b2.trans ((bthen hb2 hal).mono b2.size)
  have hR3 := (hR.then hb2).then hal
  have hg7 : w.heap.size ≤ W2.heap.size := Nat.le_trans b2.size hb2.size
  have hg8 : w.heap.size + 1 < W2.heap.size := Nat.lt_of_lt_of_le L2.lt hb2.size
  have c0 := L1a.cell 0
  have c1 := L1a.cell 1
  have c2 := L1a.cell 2
  have c3 := L1a.cell 3
  have c4 := L1a.cell 4
  simp only [List.getElem?_cons_zero, List.getElem?_cons_succ] at c0 c1 c2 c3 c4
  clear L1 L2 b2 hb2 hT hO hal hR h
  obtain ⟨W3, hW3⟩ : ∃ W3, W2.alloc (.cells #[.slice TA x.t.length tc, .slice OA x.o.length oc, .int .i64 x.got, .int .i64 x.sold, .int .i64 x.missed] 25) = W3 := ⟨_, rfl⟩
  rw [hW3] at L1a L2a P1 hT3 hO3 b3 hR3 c0 c1 c2 c3 c4
  go_wp2_with (rw [hW3])
  clear hW3

  refine (l32Tray_any x kd W3 hR3).mono ?_
  rintro e W4 ⟨rfl, hb4⟩
  rw [hi]
  obtain ⟨bA, off, hA, hbA, hcell⟩ := TraysR.el (hR3.then hb4).ts (by omega)
  obtain ⟨e0, e1⟩ := hcell i hil
  rw [← htr] at e0 e1
  have HTR := Lib.hid htr; clear htr hcell e0
  have L1b := L1a.below hb4 L1a.lt
  have L2b := L2a.below hb4 L2a.lt
  have P1b := P1.below hb4 P1.lt
  have hT4 := ownsRow_below hT3 hb4
  have hO4 := ownsRow_below hO3 hb4
  have b4 := b3.trans (hb4.mono b3.size)
  clear L1a L2a P1 hT3 hO3 b3 hR3 hb4 c0 c1 c2 c3 c4 hi
  obtain ⟨gT, cT, restT, hvT, hgT, LT, hcT⟩ := ownsRow_at hT4 (by omega)
  injection hvT with hTA _ htc
  subst hTA; subst htc
  have hOff : OffOwn W4 w.heap.size W2.heap.size (.slice (some ⟨gT, 0, none⟩) x.t.length tc) (.slice OA x.o.length oc) ⟨x.t, x.o, x.got, x.sold, x.missed⟩ := ⟨P1b, hg7, hT4, hO4⟩
  simp only [hA] at L1b
  have hne := LT.apart L2b (by decide)
  have hge : (0 : Int) ≤ (i : Int) := by omega
  have hgi : decide ((i : Int) ≥ 0) = true := decide_eq_true hge
  clear LT hT4 hO4 P1b hA
  go_wp2
  refine wp_region_factsR (Sw 13 (fun W9 => Below W4.heap.size W4 W9) (fun W9 => ∃ W8, Below W4.heap.size W4 W8 ∧ W9 = W8.setCell ⟨gT, i * 2 + 1, none⟩ (.int .i64 (tr.c + n)))) (fun i w1 w2 => i ∉ [13] → Below w1.heap.size w1 w2) (by kernel_rfl) (by kernel_rfl) (by kernel_rfl) (Sw.start (Below.refl _ _).drew) ?_
  simp only [fillOps, Act.put, List.setIfInBounds_toArray, List.set_cons_zero, List.set_cons_succ, Nat.zero_add, Nat.reduceAdd]
  apply wpFactsR_val
  case h1 =>
    intro vs L9 w9 hG9 hC9 hB K9 hK9
    replace hC9 := hC9.before hG9 (by kernel_rfl)
    simp only [Act.put, List.setIfInBounds_toArray, List.set_cons_zero, List.set_cons_succ] at hK9
    go_simp
    exact hK9 _ _ rfl (Sw.stay hG9 (by kernel_rfl) (by decide) hC9) (fun _ => Below.refl _ _)
  apply wpFactsR_val
  case h1 =>
    intro vs L9 w9 hG9 hC9 hB K9 hK9
    replace hC9 := hC9.before hG9 (by kernel_rfl)
    have d0 := FactN.eq (hB 0 _ (by kernel_rfl) (by kernel_rfl) rfl (by decide))
    simp only [d0] at hK9 ⊢
    have q0 : w9.cell? ⟨W2.heap.size, 0, none⟩ = some (.slice (some ⟨gT, 0, none⟩) x.t.length tc) := (hOff.lies.below hC9 hOff.lies.lt).cell 0
    simp only [Act.put, List.setIfInBounds_toArray, List.set_cons_zero, List.set_cons_succ] at hK9
    go_simp
    exact hK9 _ _ rfl (Sw.stay hG9 (by kernel_rfl) (by decide) hC9) (fun _ => Below.refl _ _)
  apply wpFactsR_val
  case h1 =>
    intro vs L9 w9 hG9 hC9 hB K9 hK9
    replace hC9 := hC9.before hG9 (by kernel_rfl)
    simp only [Act.put, List.setIfInBounds_toArray, List.set_cons_zero, List.set_cons_succ] at hK9
    go_simp
    exact hK9 _ _ rfl (Sw.stay hG9 (by kernel_rfl) (by decide) hC9) (fun _ => Below.refl _ _)
  apply wpFactsR_val
  case h1 =>
    intro vs L9 w9 hG9 hC9 hB K9 hK9
    replace hC9 := hC9.before hG9 (by kernel_rfl)
    simp only [Act.put, List.setIfInBounds_toArray, List.set_cons_zero, List.set_cons_succ] at hK9
    go_simp
    exact hK9 _ _ rfl (Sw.stay hG9 (by kernel_rfl) (by decide) hC9) (fun _ => Below.refl _ _)
  apply wpFactsR_val
  case h1 =>
    intro vs L9 w9 hG9 hC9 hB K9 hK9
    replace hC9 := hC9.before hG9 (by kernel_rfl)
    have d3 := FactN.eq (hB 3 _ (by kernel_rfl) (by kernel_rfl) rfl (by decide))
    simp only [d3] at hK9 ⊢
    have q0 : w9.cell? ⟨w.heap.size, 0, none⟩ = some (.slice (some ⟨bA, off, none⟩) x.t.length x.tc) := (L1b.below hC9 L1b.lt).cell 0
    simp only [Act.put, List.setIfInBounds_toArray, List.set_cons_zero, List.set_cons_succ] at hK9
    go_simp
    exact hK9 _ _ rfl (Sw.stay hG9 (by kernel_rfl) (by decide) hC9) (fun _ => Below.refl _ _)
  apply wpFactsR_val
  case h1 =>
    intro vs L9 w9 hG9 hC9 hB K9 hK9
    replace hC9 := hC9.before hG9 (by kernel_rfl)
    simp only [Act.put, List.setIfInBounds_toArray, List.set_cons_zero, List.set_cons_succ] at hK9
    go_simp
    exact hK9 _ _ rfl (Sw.stay hG9 (by kernel_rfl) (by decide) hC9) (fun _ => Below.refl _ _)
  apply wpFactsR_val
  case h1 =>
    intro vs L9 w9 hG9 hC9 hB K9 hK9
    replace hC9 := hC9.before hG9 (by kernel_rfl)
    have d4 := FactN.eq (hB 4 _ (by kernel_rfl) (by kernel_rfl) rfl (by decide))
    have d5 := FactN.eq (hB 5 _ (by kernel_rfl) (by kernel_rfl) rfl (by decide))
    simp only [d4, d5] at hK9 ⊢
    simp only [Act.put, List.setIfInBounds_toArray, List.set_cons_zero, List.set_cons_succ] at hK9
    go_simp
    exact hK9 _ _ rfl (Sw.stay hG9 (by kernel_rfl) (by decide) hC9) (fun _ => Below.refl _ _)
  apply wpFactsR_val
  case h1 =>
    intro vs L9 w9 hG9 hC9 hB K9 hK9
    replace hC9 := hC9.before hG9 (by kernel_rfl)
    have d6 := FactN.eq (hB 6 _ (by kernel_rfl) (by kernel_rfl) rfl (by decide))
    simp only [d6] at hK9 ⊢
    simp only [Act.put, List.setIfInBounds_toArray, List.set_cons_zero, List.set_cons_succ] at hK9
    go_simp
    exact hK9 _ _ rfl (Sw.stay hG9 (by kernel_rfl) (by decide) hC9) (fun _ => Below.refl _ _)
  apply wpFactsR_val
  case h1 =>
    intro vs L9 w9 hG9 hC9 hB K9 hK9
    replace hC9 := hC9.before hG9 (by kernel_rfl)
    have d7 := FactN.eq (hB 7 _ (by kernel_rfl) (by kernel_rfl) rfl (by decide))
    simp only [d7] at hK9 ⊢
    have q0 : w9.cell? ⟨bA, off + i * 2 + 1, none⟩ = some (.int .i64 tr.c) := e1 ⟨w9, hC9⟩
    simp only [Act.put, List.setIfInBounds_toArray, List.set_cons_zero, List.set_cons_succ] at hK9
    go_simp
    exact hK9 _ _ rfl (Sw.stay hG9 (by kernel_rfl) (by decide) hC9) (fun _ => Below.refl _ _)
  apply wpFactsR_val
  case h1 =>
    intro vs L9 w9 hG9 hC9 hB K9 hK9
    replace hC9 := hC9.before hG9 (by kernel_rfl)
    simp only [Act.put, List.setIfInBounds_toArray, List.set_cons_zero, List.set_cons_succ] at hK9
    go_simp
    exact hK9 _ _ rfl (Sw.stay hG9 (by kernel_rfl) (by decide) hC9) (fun _ => Below.refl _ _)
  apply wpFactsR_val
  case h1 =>
    intro vs L9 w9 hG9 hC9 hB K9 hK9
    replace hC9 := hC9.before hG9 (by kernel_rfl)
    have d8 := FactN.eq (hB 8 _ (by kernel_rfl) (by kernel_rfl) rfl (by decide))
    have d9 := FactN.eq (hB 9 _ (by kernel_rfl) (by kernel_rfl) rfl (by decide))
    simp only [d8, d9] at hK9 ⊢
    have i3 : IntKind.i64.wrap (tr.c + n) = tr.c + n := IntWalk.i64_in _ (by omega)
    simp only [Act.put, List.setIfInBounds_toArray, List.set_cons_zero, List.set_cons_succ] at hK9
    go_simp
    exact hK9 _ _ rfl (Sw.stay hG9 (by kernel_rfl) (by decide) hC9) (fun _ => Below.refl _ _)
  apply wpFactsR_val
  case h1 =>
    intro vs L9 w9 hG9 hC9 hB K9 hK9
    replace hC9 := hC9.before hG9 (by kernel_rfl)
    have d1 := FactN.eq (hB 1 _ (by kernel_rfl) (by kernel_rfl) rfl (by decide))
    have d2 := FactN.eq (hB 2 _ (by kernel_rfl) (by kernel_rfl) rfl (by decide))
    simp only [d1, d2] at hK9 ⊢
    simp only [Act.put, List.setIfInBounds_toArray, List.set_cons_zero, List.set_cons_succ] at hK9
    go_simp
    exact hK9 _ _ rfl (Sw.stay hG9 (by kernel_rfl) (by decide) hC9) (fun _ => Below.refl _ _)
  apply wpFactsR_val
  case h1 =>
    intro vs L9 w9 hG9 hC9 hB K9 hK9
    replace hC9 := hC9.before hG9 (by kernel_rfl)
    have d11 := FactN.eq (hB 11 _ (by kernel_rfl) (by kernel_rfl) rfl (by decide))
    simp only [d11] at hK9 ⊢
    simp only [Act.put, List.setIfInBounds_toArray, List.set_cons_zero, List.set_cons_succ] at hK9
    go_simp
    exact hK9 _ _ rfl (Sw.stay hG9 (by kernel_rfl) (by decide) hC9) (fun _ => Below.refl _ _)
  refine wpFactsR_val (undef) (fun vs L9 w9 hG9 hC9 hB K9 hK9 => ?ha13) ?ra13
  case ha13 =>
    replace hC9 := hC9.here hG9
    have d10 := FactN.eq (hB 10 _ (by kernel_rfl) (by kernel_rfl) rfl (by decide))
    have d12 := FactN.eq (hB 12 _ (by kernel_rfl) (by kernel_rfl) rfl (by decide))
    simp only [d10, d12] at hK9 ⊢
    obtain ⟨_, _, q0, f0⟩ := OffOwn.setT' (y := ⟨x.t, x.o, x.got, x.sold, x.missed⟩) (hOff.then hC9) hil tr HTR.out.symm (tr.c + n)
    go_simp
    exact hK9 _ _ rfl (Sw.turn ⟨w9, hC9, rfl⟩) (fun hq => (hq (by decide)).elim)
  refine wpFactsR_nil fun vs L9 w9 hL9 hC9 hB => ?_
  replace hC9 := hC9.done hL9 (by decide)
  obtain ⟨W8, hb8, rfl⟩ := hC9
  clear hB hL9
  obtain ⟨hO10, hb10, _, _⟩ := OffOwn.setT' (y := ⟨x.t, x.o, x.got, x.sold, x.missed⟩) (hOff.then hb8) hil tr HTR.out.symm (tr.c + n)
  have b10 := (b4.trans (hb8.mono b4.size)).trans hb10
  have L2c := (L2b.below hb8 L2b.lt).other (p := ⟨gT, i * 2 + 1, none⟩) (Ne.symm hne) (.int .i64 (tr.c + n))
  generalize W8.setCell ⟨gT, i * 2 + 1, none⟩ (.int .i64 (tr.c + n)) = W9 at hO10 b10 L2c ⊢
  have P9 := hO10.lies
  have hrow := stOff_row (v0 := .slice (some ⟨gT, 0, none⟩) x.t.length tc) (v1 := .slice OA x.o.length oc) (v2 := .int .i64 x.got) (v3 := .int .i64 x.sold) (v4 := .int .i64 x.missed) L2c hO10.t ne_owt
  have hrow2 := stOff_row (v0 := .slice (some ⟨gT, 0, none⟩) x.t.length tc) (v1 := .slice OA x.o.length oc) (v2 := .int .i64 x.got) (v3 := .int .i64 x.sold) (v4 := .int .i64 x.missed) L2c hO10.o ne_owo
  have bz := b10.trans (stOff_below (v0 := .slice (some ⟨gT, 0, none⟩) x.t.length tc) (v1 := .slice OA x.o.length oc) (v2 := .int .i64 x.got) (v3 := .int .i64 x.sold) (v4 := .int .i64 x.missed) L2c (Nat.le_succ _))
  have R8 := Lib.hid hrow
  have R9 := Lib.hid hrow2

  have c0 := P9.cell 0
  have c1 := P9.cell 1
  have c2 := P9.cell 2
  have c3 := P9.cell 3
  have c4 := P9.cell 4
  simp only [List.getElem?_cons_zero, List.getElem?_cons_succ] at c0 c1 c2 c3 c4
  have z0 := L2c.cell 0
  have z1 := L2c.cell 1
  have z2 := L2c.cell 2
  have z3 := L2c.cell 3
  have z4 := L2c.cell 4
  simp only [List.getElem?_cons_zero, List.getElem?_cons_succ] at z0 z1 z2 z3 z4
  have f0 := L2c.frozen 0
  have f1 := L2c.frozen 1
  have f2 := L2c.frozen 2
  have f3 := L2c.frozen 3
  have f4 := L2c.frozen 4
  clear hrow hrow2 hO10 hb10 P9 L2c
  go_wp2
  refine bodyPost_ret (v := .agg #[.slice (some ⟨gT, 0, none⟩) x.t.length tc, .slice OA x.o.length oc, .int .i64 x.got, .int .i64 x.sold, .int .i64 x.missed]) (by simp [results, Try.results72, go_sem, *]) rfl ?_
  rw [HI.out]
  exact GivesOff.of (List.length_set ..) rfl rfl R8.out R9.out bz
theorem posT_step {l : List Tray} {kd : Int} {k : Nat} (h : k < l.length) : posT (l.drop k) kd = if l[k].k < kd then posT (l.drop (k + 1)) kd + 1 else 0 := by
  rw [List.drop_eq_getElem_cons h, posT_cons]
theorem inTrays_fresh {ts : List Tray} {kd n : Int} (h : ¬ 0 ≤ trayIx ts kd) : inTrays ts kd n = (ts.take (posT ts kd) ++ [⟨kd, n⟩]) ++ ts.drop (posT ts kd) := by
  unfold inTrays; rw [if_neg h, List.append_assoc]; rfl
theorem infoTray_size : (Try.prog.info? 74).map (·.size) = some 2 := by kernel_rfl

set_option maxRecDepth 100000 in
set_option maxHeartbeats 4000000 in
theorem l32In_new (x : Off) (kd n : Int) (w : World) (h : OffR w w.heap.size x) (tl : x.t.length ≤ 1000000) (ol : x.o.length ≤ 1000000) (hbd : ∀ i (hi : i < x.t.length), -1000000000 ≤ x.t[i].c ∧ x.t[i].c ≤ 1000000000) (hn : -1000000000 ≤ n ∧ n ≤ 1000000000) (hx : ¬ 0 ≤ trayIx x.t kd) (hcap : x.t.length ≤ x.tc) :
    Calls Try.prog 72 #[x.val, .int .i64 kd, .int .i64 n] w (GivesOff w ⟨inTrays x.t kd n, x.o, x.got, x.sold, x.missed⟩) := by

  obtain ⟨n1, n2⟩ := hn
  clear hbd
  have HIN := Lib.hid (inTrays_fresh (n := n) hx)
  have L1 := (Lies.new w 25 #[.slice x.TA x.t.length x.tc, .slice x.OA x.o.length x.oc, .int .i64 x.got, .int .i64 x.sold, .int .i64 x.missed]).alloc (.cells #[.slice none 0 0, .slice none 0 0, .int .i64 0, .int .i64 0, .int .i64 0] 25)
  have L2 := Lies.new1 w (.cells #[.slice x.TA x.t.length x.tc, .slice x.OA x.o.length x.oc, .int .i64 x.got, .int .i64 x.sold, .int .i64 x.missed] 25) 25 #[.slice none 0 0, .slice none 0 0, .int .i64 0, .int .i64 0, .int .i64 0]
  have b1 := (Below.refl w.heap.size w).alloc (Nat.le_refl _) (.cells #[.slice x.TA x.t.length x.tc, .slice x.OA x.o.length x.oc, .int .i64 x.got, .int .i64 x.sold, .int .i64 x.missed] 25)
  have b2 := b1.alloc b1.size (.cells #[.slice none 0 0, .slice none 0 0, .int .i64 0, .int .i64 0, .int .i64 0] 25)
  clear b1
  go_enter Try.func72, Try.ntmps72
  go_wp2_with fail
  generalize ((w.alloc (.cells #[.slice x.TA x.t.length x.tc, .slice x.OA x.o.length x.oc, .int .i64 x.got, .int .i64 x.sold, .int .i64 x.missed] 25)).alloc (.cells #[.slice none 0 0, .slice none 0 0, .int .i64 0, .int .i64 0, .int .i64 0] 25)) = W at L1 L2 b2 ⊢
  have hR := h.up b2 (Nat.le_refl _)
  refine (l32Own_any x W hR tl ol).mono ?_
  rintro e W2 ⟨TA, tc, OA, oc, he, hT, hO, hb2⟩
  have he : e = .returned (.agg #[.slice TA x.t.length tc, .slice OA x.o.length oc, .int .i64 x.got, .int .i64 x.sold, .int .i64 x.missed]) := he
  subst he
  simp only [Off.c] at hT hO
  have L1a := (L1.below hb2 L1.lt).alloc (.cells #[.slice TA x.t.length tc, .slice OA x.o.length oc, .int .i64 x.got, .int .i64 x.sold, .int .i64 x.missed] 25)
  have L2a := (L2.below hb2 L2.lt).alloc (.cells #[.slice TA x.t.length tc, .slice OA x.o.length oc, .int .i64 x.got, .int .i64 x.sold, .int .i64 x.missed] 25)
  have P1 := Lies.new W2 25 #[.slice TA x.t.length tc, .slice OA x.o.length oc, .int .i64 x.got, .int .i64 x.sold, .int .i64 x.missed]
  have hal := (Below.refl W2.heap.size W2).alloc (Nat.le_refl _) (.cells #[.slice TA x.t.length tc, .slice OA x.o.length oc, .int .i64 x.got, .int .i64 x.sold, .int .i64 x.missed] 25)
  have hT3 := ownsRow_lower (ownsRow_below hT hal) b2.size
  have hO3 := ownsRow_lower (ownsRow_below hO hal) b2.size
  have b3 := b2.trans ((bthen hb2 hal).mono b2.size)
  have hR3 := (hR.then hb2).then hal
  have hg7 : w.heap.size ≤ W2.heap.size := Nat.le_trans b2.size hb2.size
  have hg8 : w.heap.size + 1 < W2.heap.size := Nat.lt_of_lt_of_le L2.lt hb2.size
  have c0 := L1a.cell 0
  have c1 := L1a.cell 1
  have c2 := L1a.cell 2
  have c3 := L1a.cell 3
  have c4 := L1a.cell 4
  simp only [List.getElem?_cons_zero, List.getElem?_cons_succ] at c0 c1 c2 c3 c4
  clear L1 L2 b2 hb2 hT hO hal hR h
  obtain ⟨W3, hW3⟩ : ∃ W3, W2.alloc (.cells #[.slice TA x.t.length tc, .slice OA x.o.length oc, .int .i64 x.got, .int .i64 x.sold, .int .i64 x.missed] 25) = W3 := ⟨_, rfl⟩
  rw [hW3] at L1a L2a P1 hT3 hO3 b3 hR3 c0 c1 c2 c3 c4
  go_wp2_with (rw [hW3])
  clear hW3

  refine (l32Tray_any x kd W3 hR3).mono ?_
  rintro e W4 ⟨rfl, hb4⟩
  have L1b := L1a.below hb4 L1a.lt
  have L2b := L2a.below hb4 L2a.lt
  have P1b := P1.below hb4 P1.lt
  have hO4 := ownsRow_below hO3 hb4
  have b4 := b3.trans (hb4.mono b3.size)
  have hR4 := hR3.then hb4
  have hng : decide (trayIx x.t kd ≥ 0) = false := decide_eq_false (by omega)
  have hix : trayIx x.t kd < 0 := by omega
  clear L1a L2a P1 hT3 hO3 b3 hR3 hb4 c0 c1 c2 c3 c4 hx
  have c0 := L1b.cell 0
  simp only [List.getElem?_cons_zero] at c0
  have hl := hR4.ts.big
  go_wp2
  go_loopw [9] (fun v wr => ∃ k : Nat, k ≤ x.t.length ∧ v = .int .i64 (k : Int) ∧ wr = W4 ∧ Hid (k + posT (x.t.drop k) kd = posT x.t kd)) (fun v _ => x.t.length - (intOf v).toNat)
  case atStart => exact ⟨0, Nat.zero_le _, rfl, rfl, by unfold Hid; simp⟩
  case round =>
    obtain ⟨k, hk, rfl, hwr, HP⟩ := hrel
    subst wr
    have hk9 : k ≤ 9223372036854775807 := Nat.le_trans hk hl
    by_cases hlt : k < x.t.length
    · obtain ⟨bA, off, hA, hbA, hcell⟩ := TraysR.el hR4.ts (by omega)
      obtain ⟨e0, _⟩ := hcell k hlt
      have e0 : W4.cell? ⟨bA, off + k * 2, none⟩ = some (.int .i64 x.t[k].k) := e0 (Since.start _ _)
      have HS := Lib.hid (posT_step (kd := kd) hlt)
      obtain ⟨tk, htk⟩ : ∃ tk, tk = x.t[k].k := ⟨_, rfl⟩
      rw [← htk] at e0 HS
      clear htk hcell
      have hklt : (k : Int) < (x.t.length : Int) := by omega
      by_cases hm : tk < kd
      · have HN : Hid (k + 1 + posT (x.t.drop (k + 1)) kd = posT x.t kd) := by unfold Hid; rw [← HP.out, HS.out, if_pos hm]; omega
        simp only [hA] at c0
        have hA' := Lib.hid hA
        clear hA
        go_wp2
        go_roundw
        case rel => exact ⟨k + 1, by omega, by go_num, trivial, HN⟩
        case measure => simp [intOf]; omega
      · have HK : Hid (posT x.t kd = k) := by unfold Hid; rw [← HP.out, HS.out, if_neg hm]; rfl
        clear HP HS
        have hA' := Lib.hid hA
        have c0' := Lib.hid c0
        simp only [hA] at c0
        clear hA
        go_wp2
        clear c0
        have c0 := c0'.out
        clear c0' hm e0
        refine wp_region_factsR (Sw 17 (fun W9 => Below W4.heap.size W4 W9) (fun W9 => ∃ W8 A c, Below W4.heap.size W4 W8 ∧ W8.ownsRow W4.heap.size 74 2 (.slice A (k + 1 + (x.t.length - k)) c) (k + 1 + (x.t.length - k)) (((x.t.flatMap Tray.enc).take (k * 2) ++ [.int .i64 kd, .int .i64 n]) ++ (x.t.flatMap Tray.enc).drop (k * 2)) ∧ W9 = W8.setCell ⟨W2.heap.size, 0, none⟩ (.slice A (k + 1 + (x.t.length - k)) c))) (fun i w1 w2 => i ∉ [10, 15, 17] → Below w1.heap.size w1 w2) (by kernel_rfl) (by kernel_rfl) (by kernel_rfl) (Sw.start (Below.refl _ _).drew) ?_
        simp only [fillOps, Act.put, List.setIfInBounds_toArray, List.set_cons_zero, List.set_cons_succ, Nat.zero_add, Nat.reduceAdd]
        refine wpFactsR_some [10, 15, 17] (fun v w9 => ∃ g, v = .slice (some ⟨g, 0, none⟩) 0 0 ∧ W4.heap.size ≤ g ∧ Lies w9 g 74 []) ?sb0 (fun vs L9 w9 hG9 hC9 hB K9 hK9 => ?hb0) ?rb0
        case sb0 =>
          intro i9 hi9 hb9 ha9 v w1 w2 hv hT9
          have hb := hT9 (fun hm => by
            simp only [List.mem_cons, List.not_mem_nil, or_false] at hm hb9
            rcases hm with rfl | rfl | rfl
            · exact hb9 (by simp)
            · exact hb9 (by simp)
            · exact hb9 (by simp))
          obtain ⟨g, e, hg, hl⟩ := hv
          exact ⟨g, e, hg, hl.below hb hl.lt⟩
        case hb0 =>
          replace hC9 := hC9.before hG9 (by kernel_rfl)
          simp only [Act.put, List.setIfInBounds_toArray, List.set_cons_zero, List.set_cons_succ] at hK9
          go_simp
          exact hK9 _ _ _ rfl ⟨_, rfl, hC9.size, Lies.new w9 74 #[]⟩ (Sw.stay hG9 (by kernel_rfl) (by decide) (hC9.alloc hC9.size _)) (fun _ => (Below.refl _ _).alloc (Nat.le_refl _) _)
        apply wpFactsR_val
        case h1 =>
          intro vs L9 w9 hG9 hC9 hB K9 hK9
          replace hC9 := hC9.before hG9 (by kernel_rfl)
          simp only [Act.put, List.setIfInBounds_toArray, List.set_cons_zero, List.set_cons_succ] at hK9
          go_simp
          exact hK9 _ _ rfl (Sw.stay hG9 (by kernel_rfl) (by decide) hC9) (fun _ => Below.refl _ _)
        apply wpFactsR_val
        case h1 =>
          intro vs L9 w9 hG9 hC9 hB K9 hK9
          replace hC9 := hC9.before hG9 (by kernel_rfl)
          have d1 := FactN.eq (hB 1 _ (by kernel_rfl) (by kernel_rfl) rfl (by decide))
          simp only [d1] at hK9 ⊢
          have q0 : w9.cell? ⟨w.heap.size, 0, none⟩ = some (.slice x.TA x.t.length x.tc) := (L1b.below hC9 L1b.lt).cell 0
          simp only [Act.put, List.setIfInBounds_toArray, List.set_cons_zero, List.set_cons_succ] at hK9
          go_simp
          exact hK9 _ _ rfl (Sw.stay hG9 (by kernel_rfl) (by decide) hC9) (fun _ => Below.refl _ _)
        apply wpFactsR_val
        case h1 =>
          intro vs L9 w9 hG9 hC9 hB K9 hK9
          replace hC9 := hC9.before hG9 (by kernel_rfl)
          simp only [Act.put, List.setIfInBounds_toArray, List.set_cons_zero, List.set_cons_succ] at hK9
          go_simp
          exact hK9 _ _ rfl (Sw.stay hG9 (by kernel_rfl) (by decide) hC9) (fun _ => Below.refl _ _)
        apply wpFactsR_val
        case h1 =>
          intro vs L9 w9 hG9 hC9 hB K9 hK9
          replace hC9 := hC9.before hG9 (by kernel_rfl)
          have d2 := FactN.eq (hB 2 _ (by kernel_rfl) (by kernel_rfl) rfl (by decide))
          have d3 := FactN.eq (hB 3 _ (by kernel_rfl) (by kernel_rfl) rfl (by decide))
          simp only [d2, d3] at hK9 ⊢
          simp only [Act.put, List.setIfInBounds_toArray, List.set_cons_zero, List.set_cons_succ] at hK9
          refine step_sliceTo rfl 22 74 (.tmp 50) (.tmp 51) rfl Try.underlying22 2 infoTray_size x.TA x.t.length x.tc k (by rfl) (by rfl) hk hcap ?_
          exact hK9 _ _ rfl (Sw.stay hG9 (by kernel_rfl) (by decide) hC9) (fun _ => Below.refl _ _)
        refine wpFactsR_some [10, 15, 17] (fun v w9 => ∃ A c, v = .slice A (k) c ∧ w9.ownsRow W4.heap.size 74 2 (.slice A (k) c) (k) ((x.t.flatMap Tray.enc).take (k * 2))) ?sb5 (fun vs L9 w9 hG9 hC9 hB K9 hK9 => ?hb5) ?rb5
        case sb5 =>
          intro i9 hi9 hb9 ha9 v w1 w2 hv hT9
          have hb := hT9 (fun hm => by
            simp only [List.mem_cons, List.not_mem_nil, or_false] at hm hb9
            rcases hm with rfl | rfl | rfl
            · exact hb9 (by simp)
            · exact hb9 (by simp)
            · exact hb9 (by simp))
          obtain ⟨A, c, e, ho⟩ := hv
          exact ⟨A, c, e, ownsRow_below ho hb⟩
        case hb5 =>
          replace hC9 := hC9.before hG9 (by kernel_rfl)
          have d4 := FactN.eq (hB 4 _ (by kernel_rfl) (by kernel_rfl) rfl (by decide))
          simp only [d4] at hK9 ⊢
          simp only [Act.put, List.setIfInBounds_toArray, List.set_cons_zero, List.set_cons_succ] at hK9
          obtain ⟨g, e0, hg, hl⟩ := hB 0 _ (by kernel_rfl) (by kernel_rfl) rfl (by decide)
          simp only [e0] at hK9 ⊢
          refine stepCat rfl (.tmp 48) (.tmp 52) 22 rfl 74 _ 2 16 Try.underlying22 infoTray rfl (by omega) (by omega) W4.heap.size g (by rfl) hl hg W4.heap.size x.TA k x.tc _ (by rfl) (SlcR.take (SlcR.below hR4.ts hC9) k hk) (fun u hu => tray_cells u (List.mem_of_mem_take hu)) (by omega) ?_
          intro v' w' ho hb
          obtain ⟨A', c', rfl⟩ := ownsRow_slice ho
          exact hK9 _ _ _ rfl ⟨A', c', rfl, ho⟩ (Sw.stay hG9 (by kernel_rfl) (by decide) (hC9.trans (hb.mono hC9.size))) (fun _ => hb)
        apply wpFactsR_val
        case h1 =>
          intro vs L9 w9 hG9 hC9 hB K9 hK9
          replace hC9 := hC9.before hG9 (by kernel_rfl)
          simp only [Act.put, List.setIfInBounds_toArray, List.set_cons_zero, List.set_cons_succ] at hK9
          go_simp
          exact hK9 _ _ rfl (Sw.stay hG9 (by kernel_rfl) (by decide) hC9) (fun _ => Below.refl _ _)
        apply wpFactsR_val
        case h1 =>
          intro vs L9 w9 hG9 hC9 hB K9 hK9
          replace hC9 := hC9.before hG9 (by kernel_rfl)
          simp only [Act.put, List.setIfInBounds_toArray, List.set_cons_zero, List.set_cons_succ] at hK9
          go_simp
          exact hK9 _ _ rfl (Sw.stay hG9 (by kernel_rfl) (by decide) hC9) (fun _ => Below.refl _ _)
        apply wpFactsR_val
        case h1 =>
          intro vs L9 w9 hG9 hC9 hB K9 hK9
          replace hC9 := hC9.before hG9 (by kernel_rfl)
          have d6 := FactN.eq (hB 6 _ (by kernel_rfl) (by kernel_rfl) rfl (by decide))
          have d7 := FactN.eq (hB 7 _ (by kernel_rfl) (by kernel_rfl) rfl (by decide))
          simp only [d6, d7] at hK9 ⊢
          simp only [Act.put, List.setIfInBounds_toArray, List.set_cons_zero, List.set_cons_succ] at hK9
          go_simp
          exact hK9 _ _ rfl (Sw.stay hG9 (by kernel_rfl) (by decide) hC9) (fun _ => Below.refl _ _)
        refine wpFactsR_some [10, 15, 17] (fun v w9 => ∃ g c, v = .slice (some ⟨g, 0, none⟩) 1 c ∧ Lies w9 g 74 [.int .i64 kd, .int .i64 n]) ?sb9 (fun vs L9 w9 hG9 hC9 hB K9 hK9 => ?hb9) ?rb9
        case sb9 =>
          intro i9 hi9 hb9 ha9 v w1 w2 hv hT9
          have hb := hT9 (fun hm => by
            simp only [List.mem_cons, List.not_mem_nil, or_false] at hm hb9
            rcases hm with rfl | rfl | rfl
            · exact hb9 (by simp)
            · exact hb9 (by simp)
            · exact hb9 (by simp))
          obtain ⟨g, c, e, hl⟩ := hv
          exact ⟨g, c, e, hl.below hb hl.lt⟩
        case hb9 =>
          replace hC9 := hC9.before hG9 (by kernel_rfl)
          have d8 := FactN.eq (hB 8 _ (by kernel_rfl) (by kernel_rfl) rfl (by decide))
          simp only [d8] at hK9 ⊢
          simp only [Act.put, List.setIfInBounds_toArray, List.set_cons_zero, List.set_cons_succ] at hK9
          go_simp
          exact hK9 _ _ _ rfl ⟨_, _, rfl, Lies.new w9 74 #[.int .i64 kd, .int .i64 n]⟩ (Sw.stay hG9 (by kernel_rfl) (by decide) (hC9.alloc hC9.size _)) (fun _ => (Below.refl _ _).alloc (Nat.le_refl _) _)
        refine wpFactsR_some [15, 17] (fun v w9 => ∃ A c, v = .slice A (k + 1) c ∧ w9.ownsRow W4.heap.size 74 2 (.slice A (k + 1) c) (k + 1) ((x.t.flatMap Tray.enc).take (k * 2) ++ [.int .i64 kd, .int .i64 n])) ?sb10 (fun vs L9 w9 hG9 hC9 hB K9 hK9 => ?hb10) ?rb10
        case sb10 =>
          intro i9 hi9 hb9 ha9 v w1 w2 hv hT9
          have hb := hT9 (fun hm => by
            simp only [List.mem_cons, List.not_mem_nil, or_false] at hm hb9
            rcases hm with rfl | rfl | rfl
            · exact hi9 rfl
            · exact hb9 (by simp)
            · exact hb9 (by simp))
          obtain ⟨A, c, e, ho⟩ := hv
          exact ⟨A, c, e, ownsRow_below ho hb⟩
        case hb10 =>
          replace hC9 := hC9.before hG9 (by kernel_rfl)
          simp only [Act.put, List.setIfInBounds_toArray, List.set_cons_zero, List.set_cons_succ] at hK9
          obtain ⟨A, c, e5, ho⟩ := hB 5 _ (by kernel_rfl) (by kernel_rfl) rfl (by decide)
          obtain ⟨g, c9, e9, hl⟩ := hB 9 _ (by kernel_rfl) (by kernel_rfl) rfl (by decide)
          simp only [e5, e9] at hK9 ⊢
          refine step_cat rfl (.tmp 53) (.tmp 57) 22 rfl 74 _ 2 16 Try.underlying22 infoTray rfl (by omega) (by omega) W4.heap.size _ k _ (by rfl) ho w9.heap.size (some ⟨g, 0, none⟩) 1 c9 [.int .i64 kd, .int .i64 n] (by rfl) (hl.reads rfl (by omega)) (by simp [Value.oneCell']) (by omega) hC9.size ?_
          intro A' c' w' ho' _ hb
          exact hK9 _ _ _ rfl ⟨A', c', rfl, ho'⟩ (Sw.stay hG9 (by kernel_rfl) (by decide) (hC9.trans hb)) (fun hq => (hq (by decide)).elim)
        apply wpFactsR_val
        case h1 =>
          intro vs L9 w9 hG9 hC9 hB K9 hK9
          replace hC9 := hC9.before hG9 (by kernel_rfl)
          simp only [Act.put, List.setIfInBounds_toArray, List.set_cons_zero, List.set_cons_succ] at hK9
          go_simp
          exact hK9 _ _ rfl (Sw.stay hG9 (by kernel_rfl) (by decide) hC9) (fun _ => Below.refl _ _)
        apply wpFactsR_val
        case h1 =>
          intro vs L9 w9 hG9 hC9 hB K9 hK9
          replace hC9 := hC9.before hG9 (by kernel_rfl)
          have d11 := FactN.eq (hB 11 _ (by kernel_rfl) (by kernel_rfl) rfl (by decide))
          simp only [d11] at hK9 ⊢
          have q0 : w9.cell? ⟨w.heap.size, 0, none⟩ = some (.slice x.TA x.t.length x.tc) := (L1b.below hC9 L1b.lt).cell 0
          simp only [Act.put, List.setIfInBounds_toArray, List.set_cons_zero, List.set_cons_succ] at hK9
          go_simp
          exact hK9 _ _ rfl (Sw.stay hG9 (by kernel_rfl) (by decide) hC9) (fun _ => Below.refl _ _)
        apply wpFactsR_val
        case h1 =>
          intro vs L9 w9 hG9 hC9 hB K9 hK9
          replace hC9 := hC9.before hG9 (by kernel_rfl)
          simp only [Act.put, List.setIfInBounds_toArray, List.set_cons_zero, List.set_cons_succ] at hK9
          go_simp
          exact hK9 _ _ rfl (Sw.stay hG9 (by kernel_rfl) (by decide) hC9) (fun _ => Below.refl _ _)
        refine wpFactsR_some [] (fun v w9 => ∃ A, v = .slice A (x.t.length - k) (x.tc - k) ∧ ∀ W9, Below W4.heap.size W4 W9 → SlcR W9 W4.heap.size 2 A (x.t.length - k) ((x.t.flatMap Tray.enc).drop (k * 2))) ?sb14 (fun vs L9 w9 hG9 hC9 hB K9 hK9 => ?hb14) ?rb14
        case sb14 =>
          intro i9 hi9 hb9 ha9 v w1 w2 hv hT9
          exact hv
        case hb14 =>
          replace hC9 := hC9.before hG9 (by kernel_rfl)
          have d12 := FactN.eq (hB 12 _ (by kernel_rfl) (by kernel_rfl) rfl (by decide))
          have d13 := FactN.eq (hB 13 _ (by kernel_rfl) (by kernel_rfl) rfl (by decide))
          simp only [d12, d13] at hK9 ⊢
          simp only [Act.put, List.setIfInBounds_toArray, List.set_cons_zero, List.set_cons_succ] at hK9
          refine step_sliceFrom rfl 22 74 (.tmp 60) (.tmp 61) rfl Try.underlying22 2 infoTray_size x.TA x.t.length x.tc k (by rfl) (by rfl) hk hcap ?_
          intro A' hA9
          exact hK9 _ _ _ rfl ⟨A', rfl, fun W9 hW => hA9 _ _ _ (SlcR.below hR4.ts hW)⟩ (Sw.stay hG9 (by kernel_rfl) (by decide) hC9) (fun _ => Below.refl _ _)
        refine wpFactsR_some [17] (fun v w9 => ∃ A c, v = .slice A (k + 1 + (x.t.length - k)) c ∧ w9.ownsRow W4.heap.size 74 2 (.slice A (k + 1 + (x.t.length - k)) c) (k + 1 + (x.t.length - k)) (((x.t.flatMap Tray.enc).take (k * 2) ++ [.int .i64 kd, .int .i64 n]) ++ (x.t.flatMap Tray.enc).drop (k * 2))) ?sb15 (fun vs L9 w9 hG9 hC9 hB K9 hK9 => ?hb15) ?rb15
        case sb15 =>
          intro i9 hi9 hb9 ha9 v w1 w2 hv hT9
          have hb := hT9 (fun hm => by
            simp only [List.mem_cons, List.not_mem_nil, or_false] at hm hb9
            rcases hm with rfl | rfl | rfl
            · exact absurd (ha9.symm.trans (show ahead .any _ _ _ _ = true by kernel_rfl)) (by decide)
            · exact hi9 rfl
            · exact hb9 (by simp))
          obtain ⟨A, c, e, ho⟩ := hv
          exact ⟨A, c, e, ownsRow_below ho hb⟩
        case hb15 =>
          replace hC9 := hC9.before hG9 (by kernel_rfl)
          simp only [Act.put, List.setIfInBounds_toArray, List.set_cons_zero, List.set_cons_succ] at hK9
          obtain ⟨A, c, e10, ho⟩ := hB 10 _ (by kernel_rfl) (by kernel_rfl) rfl (by decide)
          obtain ⟨A14, e14, hr⟩ := hB 14 _ (by kernel_rfl) (by kernel_rfl) rfl (by decide)
          simp only [e10, e14] at hK9 ⊢
          refine step_cat rfl (.tmp 58) (.tmp 62) 22 rfl 74 _ 2 16 Try.underlying22 infoTray rfl (by omega) (by omega) W4.heap.size _ (k + 1) _ (by rfl) ho W4.heap.size A14 (x.t.length - k) (x.tc - k) _ (by rfl) (hr w9 hC9) (fun u hu => tray_cells u (List.mem_of_mem_drop hu)) (by omega) hC9.size ?_
          intro A' c' w' ho' _ hb
          exact hK9 _ _ _ rfl ⟨A', c', rfl, ho'⟩ (Sw.stay hG9 (by kernel_rfl) (by decide) (hC9.trans hb)) (fun hq => (hq (by decide)).elim)
        apply wpFactsR_val
        case h1 =>
          intro vs L9 w9 hG9 hC9 hB K9 hK9
          replace hC9 := hC9.before hG9 (by kernel_rfl)
          simp only [Act.put, List.setIfInBounds_toArray, List.set_cons_zero, List.set_cons_succ] at hK9
          go_simp
          exact hK9 _ _ rfl (Sw.stay hG9 (by kernel_rfl) (by decide) hC9) (fun _ => Below.refl _ _)
        refine wpFactsR_val (undef) (fun vs L9 w9 hG9 hC9 hB K9 hK9 => ?hb17) ?rb17
        case hb17 =>
          replace hC9 := hC9.here hG9
          have d16 := FactN.eq (hB 16 _ (by kernel_rfl) (by kernel_rfl) rfl (by decide))
          simp only [d16] at hK9 ⊢
          obtain ⟨A, c, e15, ho⟩ := hB 15 _ (by kernel_rfl) (by kernel_rfl) rfl (by decide)
          simp only [e15] at hK9 ⊢
          have P9 := P1b.below hC9 P1b.lt
          have q0 := P9.cell 0
          have f0 := P9.frozen 0
          simp only [List.getElem?_cons_zero] at q0
          have ho := Lib.hid ho
          go_simp
          exact hK9 _ _ rfl (Sw.turn ⟨w9, A, c, hC9, ho.out, rfl⟩) (fun hq => (hq (by decide)).elim)
        refine wpFactsR_nil fun vs L9 w9 hL9 hC9 hB => ?_
        replace hC9 := hC9.done hL9 (by decide)
        obtain ⟨W8, A, c, hb8, ho8, rfl⟩ := hC9
        clear hB hL9
        have P8 := P1b.below hb8 P1b.lt
        have hoT := ownsRow_setOther ho8 P8 ne_owt 0 (.slice A (k + 1 + (x.t.length - k)) c)
        have hoO := ownsRow_setOther (ownsRow_below hO4 hb8) P8 ne_owo 0 (.slice A (k + 1 + (x.t.length - k)) c)
        have P9 := P8.set 0 (.slice A (k + 1 + (x.t.length - k)) c)
        have L2c := (L2b.below hb8 L2b.lt).other (p := ⟨W2.heap.size, 0, none⟩) (by simp; omega) (.slice A (k + 1 + (x.t.length - k)) c)
        have b9 := (b4.trans (hb8.mono b4.size)).setCell (p := ⟨W2.heap.size, 0, none⟩) hg7 (.slice A (k + 1 + (x.t.length - k)) c)
        have hoT := ownsRow_lower hoT b4.size
        generalize W8.setCell ⟨W2.heap.size, 0, none⟩ (.slice A (k + 1 + (x.t.length - k)) c) = W9 at hoT hoO P9 L2c b9 ⊢
        have HT := Lib.hid (stOff_row (v0 := .slice A (k + 1 + (x.t.length - k)) c) (v1 := .slice OA x.o.length oc) (v2 := .int .i64 x.got) (v3 := .int .i64 x.sold) (v4 := .int .i64 x.missed) L2c hoT ne_owt)
        have HO := Lib.hid (stOff_row (v0 := .slice A (k + 1 + (x.t.length - k)) c) (v1 := .slice OA x.o.length oc) (v2 := .int .i64 x.got) (v3 := .int .i64 x.sold) (v4 := .int .i64 x.missed) L2c hoO ne_owo)
        have bz := b9.trans (stOff_below (v0 := .slice A (k + 1 + (x.t.length - k)) c) (v1 := .slice OA x.o.length oc) (v2 := .int .i64 x.got) (v3 := .int .i64 x.sold) (v4 := .int .i64 x.missed) L2c (Nat.le_succ _))
        simp only [List.set_cons_zero] at P9
        have k0 := P9.cell 0
        have k1 := P9.cell 1
        have k2 := P9.cell 2
        have k3 := P9.cell 3
        have k4 := P9.cell 4
        simp only [List.getElem?_cons_zero, List.getElem?_cons_succ] at k0 k1 k2 k3 k4
        have z0 := L2c.cell 0
        have z1 := L2c.cell 1
        have z2 := L2c.cell 2
        have z3 := L2c.cell 3
        have z4 := L2c.cell 4
        simp only [List.getElem?_cons_zero, List.getElem?_cons_succ] at z0 z1 z2 z3 z4
        have f0 := L2c.frozen 0
        have f1 := L2c.frozen 1
        have f2 := L2c.frozen 2
        have f3 := L2c.frozen 3
        have f4 := L2c.frozen 4
        clear hoT hoO P9 P8 L2c ho8 c0
        go_wp2
        refine bodyPost_ret (v := .agg #[.slice A (k + 1 + (x.t.length - k)) c, .slice OA x.o.length oc, .int .i64 x.got, .int .i64 x.sold, .int .i64 x.missed]) (by simp [results, Try.results72, go_sem, *]) rfl ?_
        rw [HIN.out, HK.out]
        have hlen : ((x.t.take k ++ [(⟨kd, n⟩ : Tray)]) ++ x.t.drop k).length = k + 1 + (x.t.length - k) := by
          rw [List.length_append, List.length_append, List.length_take, List.length_drop, List.length_singleton, Nat.min_eq_left hk]
        have hcs : (((x.t.take k ++ [(⟨kd, n⟩ : Tray)]) ++ x.t.drop k).flatMap Tray.enc) = (((x.t.flatMap Tray.enc).take (k * 2) ++ [.int .i64 kd, .int .i64 n]) ++ (x.t.flatMap Tray.enc).drop (k * 2)) := by
          rw [List.flatMap_append, List.flatMap_append, flat_take Tray.enc 2 Tray.enc_len, flat_drop Tray.enc 2 Tray.enc_len]
          rfl
        exact GivesOff.of hlen rfl rfl (by rw [hlen, hcs]; exact HT.out) HO.out bz
    · have hke : k = x.t.length := by omega
      have HK : Hid (posT x.t kd = k) := by unfold Hid; rw [← HP.out, List.drop_eq_nil_of_le (by omega)]; rfl
      clear HP
      have hkl : ¬ (k : Int) < (x.t.length : Int) := by omega
      have Hke := Lib.hid hke; clear hke
      go_wp2
      refine wp_region_factsR (Sw 17 (fun W9 => Below W4.heap.size W4 W9) (fun W9 => ∃ W8 A c, Below W4.heap.size W4 W8 ∧ W8.ownsRow W4.heap.size 74 2 (.slice A (k + 1 + (x.t.length - k)) c) (k + 1 + (x.t.length - k)) (((x.t.flatMap Tray.enc).take (k * 2) ++ [.int .i64 kd, .int .i64 n]) ++ (x.t.flatMap Tray.enc).drop (k * 2)) ∧ W9 = W8.setCell ⟨W2.heap.size, 0, none⟩ (.slice A (k + 1 + (x.t.length - k)) c))) (fun i w1 w2 => i ∉ [10, 15, 17] → Below w1.heap.size w1 w2) (by kernel_rfl) (by kernel_rfl) (by kernel_rfl) (Sw.start (Below.refl _ _).drew) ?_
      simp only [fillOps, Act.put, List.setIfInBounds_toArray, List.set_cons_zero, List.set_cons_succ, Nat.zero_add, Nat.reduceAdd]
      refine wpFactsR_some [10, 15, 17] (fun v w9 => ∃ g, v = .slice (some ⟨g, 0, none⟩) 0 0 ∧ W4.heap.size ≤ g ∧ Lies w9 g 74 []) ?sc0 (fun vs L9 w9 hG9 hC9 hB K9 hK9 => ?hc0) ?rc0
      case sc0 =>
        intro i9 hi9 hb9 ha9 v w1 w2 hv hT9
        have hb := hT9 (fun hm => by
          simp only [List.mem_cons, List.not_mem_nil, or_false] at hm hb9
          rcases hm with rfl | rfl | rfl
          · exact hb9 (by simp)
          · exact hb9 (by simp)
          · exact hb9 (by simp))
        obtain ⟨g, e, hg, hl⟩ := hv
        exact ⟨g, e, hg, hl.below hb hl.lt⟩
      case hc0 =>
        replace hC9 := hC9.before hG9 (by kernel_rfl)
        simp only [Act.put, List.setIfInBounds_toArray, List.set_cons_zero, List.set_cons_succ] at hK9
        go_simp
        exact hK9 _ _ _ rfl ⟨_, rfl, hC9.size, Lies.new w9 74 #[]⟩ (Sw.stay hG9 (by kernel_rfl) (by decide) (hC9.alloc hC9.size _)) (fun _ => (Below.refl _ _).alloc (Nat.le_refl _) _)
      apply wpFactsR_val
      case h1 =>
        intro vs L9 w9 hG9 hC9 hB K9 hK9
        replace hC9 := hC9.before hG9 (by kernel_rfl)
        simp only [Act.put, List.setIfInBounds_toArray, List.set_cons_zero, List.set_cons_succ] at hK9
        go_simp
        exact hK9 _ _ rfl (Sw.stay hG9 (by kernel_rfl) (by decide) hC9) (fun _ => Below.refl _ _)
      apply wpFactsR_val
      case h1 =>
        intro vs L9 w9 hG9 hC9 hB K9 hK9
        replace hC9 := hC9.before hG9 (by kernel_rfl)
        have d1 := FactN.eq (hB 1 _ (by kernel_rfl) (by kernel_rfl) rfl (by decide))
        simp only [d1] at hK9 ⊢
        have q0 : w9.cell? ⟨w.heap.size, 0, none⟩ = some (.slice x.TA x.t.length x.tc) := (L1b.below hC9 L1b.lt).cell 0
        simp only [Act.put, List.setIfInBounds_toArray, List.set_cons_zero, List.set_cons_succ] at hK9
        go_simp
        exact hK9 _ _ rfl (Sw.stay hG9 (by kernel_rfl) (by decide) hC9) (fun _ => Below.refl _ _)
      apply wpFactsR_val
      case h1 =>
        intro vs L9 w9 hG9 hC9 hB K9 hK9
        replace hC9 := hC9.before hG9 (by kernel_rfl)
        simp only [Act.put, List.setIfInBounds_toArray, List.set_cons_zero, List.set_cons_succ] at hK9
        go_simp
        exact hK9 _ _ rfl (Sw.stay hG9 (by kernel_rfl) (by decide) hC9) (fun _ => Below.refl _ _)
      apply wpFactsR_val
      case h1 =>
        intro vs L9 w9 hG9 hC9 hB K9 hK9
        replace hC9 := hC9.before hG9 (by kernel_rfl)
        have d2 := FactN.eq (hB 2 _ (by kernel_rfl) (by kernel_rfl) rfl (by decide))
        have d3 := FactN.eq (hB 3 _ (by kernel_rfl) (by kernel_rfl) rfl (by decide))
        simp only [d2, d3] at hK9 ⊢
        simp only [Act.put, List.setIfInBounds_toArray, List.set_cons_zero, List.set_cons_succ] at hK9
        refine step_sliceTo rfl 22 74 (.tmp 50) (.tmp 51) rfl Try.underlying22 2 infoTray_size x.TA x.t.length x.tc k (by rfl) (by rfl) hk hcap ?_
        exact hK9 _ _ rfl (Sw.stay hG9 (by kernel_rfl) (by decide) hC9) (fun _ => Below.refl _ _)
      refine wpFactsR_some [10, 15, 17] (fun v w9 => ∃ A c, v = .slice A (k) c ∧ w9.ownsRow W4.heap.size 74 2 (.slice A (k) c) (k) ((x.t.flatMap Tray.enc).take (k * 2))) ?sc5 (fun vs L9 w9 hG9 hC9 hB K9 hK9 => ?hc5) ?rc5
      case sc5 =>
        intro i9 hi9 hb9 ha9 v w1 w2 hv hT9
        have hb := hT9 (fun hm => by
          simp only [List.mem_cons, List.not_mem_nil, or_false] at hm hb9
          rcases hm with rfl | rfl | rfl
          · exact hb9 (by simp)
          · exact hb9 (by simp)
          · exact hb9 (by simp))
        obtain ⟨A, c, e, ho⟩ := hv
        exact ⟨A, c, e, ownsRow_below ho hb⟩
      case hc5 =>
        replace hC9 := hC9.before hG9 (by kernel_rfl)
        have d4 := FactN.eq (hB 4 _ (by kernel_rfl) (by kernel_rfl) rfl (by decide))
        simp only [d4] at hK9 ⊢
        simp only [Act.put, List.setIfInBounds_toArray, List.set_cons_zero, List.set_cons_succ] at hK9
        obtain ⟨g, e0, hg, hl⟩ := hB 0 _ (by kernel_rfl) (by kernel_rfl) rfl (by decide)
        simp only [e0] at hK9 ⊢
        refine stepCat rfl (.tmp 48) (.tmp 52) 22 rfl 74 _ 2 16 Try.underlying22 infoTray rfl (by omega) (by omega) W4.heap.size g (by rfl) hl hg W4.heap.size x.TA k x.tc _ (by rfl) (SlcR.take (SlcR.below hR4.ts hC9) k hk) (fun u hu => tray_cells u (List.mem_of_mem_take hu)) (by omega) ?_
        intro v' w' ho hb
        obtain ⟨A', c', rfl⟩ := ownsRow_slice ho
        exact hK9 _ _ _ rfl ⟨A', c', rfl, ho⟩ (Sw.stay hG9 (by kernel_rfl) (by decide) (hC9.trans (hb.mono hC9.size))) (fun _ => hb)
      apply wpFactsR_val
      case h1 =>
        intro vs L9 w9 hG9 hC9 hB K9 hK9
        replace hC9 := hC9.before hG9 (by kernel_rfl)
        simp only [Act.put, List.setIfInBounds_toArray, List.set_cons_zero, List.set_cons_succ] at hK9
        go_simp
        exact hK9 _ _ rfl (Sw.stay hG9 (by kernel_rfl) (by decide) hC9) (fun _ => Below.refl _ _)
      apply wpFactsR_val
      case h1 =>
        intro vs L9 w9 hG9 hC9 hB K9 hK9
        replace hC9 := hC9.before hG9 (by kernel_rfl)
        simp only [Act.put, List.setIfInBounds_toArray, List.set_cons_zero, List.set_cons_succ] at hK9
        go_simp
        exact hK9 _ _ rfl (Sw.stay hG9 (by kernel_rfl) (by decide) hC9) (fun _ => Below.refl _ _)
      apply wpFactsR_val
      case h1 =>
        intro vs L9 w9 hG9 hC9 hB K9 hK9
        replace hC9 := hC9.before hG9 (by kernel_rfl)
        have d6 := FactN.eq (hB 6 _ (by kernel_rfl) (by kernel_rfl) rfl (by decide))
        have d7 := FactN.eq (hB 7 _ (by kernel_rfl) (by kernel_rfl) rfl (by decide))
        simp only [d6, d7] at hK9 ⊢
        simp only [Act.put, List.setIfInBounds_toArray, List.set_cons_zero, List.set_cons_succ] at hK9
        go_simp
        exact hK9 _ _ rfl (Sw.stay hG9 (by kernel_rfl) (by decide) hC9) (fun _ => Below.refl _ _)
      refine wpFactsR_some [10, 15, 17] (fun v w9 => ∃ g c, v = .slice (some ⟨g, 0, none⟩) 1 c ∧ Lies w9 g 74 [.int .i64 kd, .int .i64 n]) ?sc9 (fun vs L9 w9 hG9 hC9 hB K9 hK9 => ?hc9) ?rc9
      case sc9 =>
        intro i9 hi9 hb9 ha9 v w1 w2 hv hT9
        have hb := hT9 (fun hm => by
          simp only [List.mem_cons, List.not_mem_nil, or_false] at hm hb9
          rcases hm with rfl | rfl | rfl
          · exact hb9 (by simp)
          · exact hb9 (by simp)
          · exact hb9 (by simp))
        obtain ⟨g, c, e, hl⟩ := hv
        exact ⟨g, c, e, hl.below hb hl.lt⟩
      case hc9 =>
        replace hC9 := hC9.before hG9 (by kernel_rfl)
        have d8 := FactN.eq (hB 8 _ (by kernel_rfl) (by kernel_rfl) rfl (by decide))
        simp only [d8] at hK9 ⊢
        simp only [Act.put, List.setIfInBounds_toArray, List.set_cons_zero, List.set_cons_succ] at hK9
        go_simp
        exact hK9 _ _ _ rfl ⟨_, _, rfl, Lies.new w9 74 #[.int .i64 kd, .int .i64 n]⟩ (Sw.stay hG9 (by kernel_rfl) (by decide) (hC9.alloc hC9.size _)) (fun _ => (Below.refl _ _).alloc (Nat.le_refl _) _)
      refine wpFactsR_some [15, 17] (fun v w9 => ∃ A c, v = .slice A (k + 1) c ∧ w9.ownsRow W4.heap.size 74 2 (.slice A (k + 1) c) (k + 1) ((x.t.flatMap Tray.enc).take (k * 2) ++ [.int .i64 kd, .int .i64 n])) ?sc10 (fun vs L9 w9 hG9 hC9 hB K9 hK9 => ?hc10) ?rc10
      case sc10 =>
        intro i9 hi9 hb9 ha9 v w1 w2 hv hT9
        have hb := hT9 (fun hm => by
          simp only [List.mem_cons, List.not_mem_nil, or_false] at hm hb9
          rcases hm with rfl | rfl | rfl
          · exact hi9 rfl
          · exact hb9 (by simp)
          · exact hb9 (by simp))
        obtain ⟨A, c, e, ho⟩ := hv
        exact ⟨A, c, e, ownsRow_below ho hb⟩
      case hc10 =>
        replace hC9 := hC9.before hG9 (by kernel_rfl)
        simp only [Act.put, List.setIfInBounds_toArray, List.set_cons_zero, List.set_cons_succ] at hK9
        obtain ⟨A, c, e5, ho⟩ := hB 5 _ (by kernel_rfl) (by kernel_rfl) rfl (by decide)
        obtain ⟨g, c9, e9, hl⟩ := hB 9 _ (by kernel_rfl) (by kernel_rfl) rfl (by decide)
        simp only [e5, e9] at hK9 ⊢
        refine step_cat rfl (.tmp 53) (.tmp 57) 22 rfl 74 _ 2 16 Try.underlying22 infoTray rfl (by omega) (by omega) W4.heap.size _ k _ (by rfl) ho w9.heap.size (some ⟨g, 0, none⟩) 1 c9 [.int .i64 kd, .int .i64 n] (by rfl) (hl.reads rfl (by omega)) (by simp [Value.oneCell']) (by omega) hC9.size ?_
        intro A' c' w' ho' _ hb
        exact hK9 _ _ _ rfl ⟨A', c', rfl, ho'⟩ (Sw.stay hG9 (by kernel_rfl) (by decide) (hC9.trans hb)) (fun hq => (hq (by decide)).elim)
      apply wpFactsR_val
      case h1 =>
        intro vs L9 w9 hG9 hC9 hB K9 hK9
        replace hC9 := hC9.before hG9 (by kernel_rfl)
        simp only [Act.put, List.setIfInBounds_toArray, List.set_cons_zero, List.set_cons_succ] at hK9
        go_simp
        exact hK9 _ _ rfl (Sw.stay hG9 (by kernel_rfl) (by decide) hC9) (fun _ => Below.refl _ _)
      apply wpFactsR_val
      case h1 =>
        intro vs L9 w9 hG9 hC9 hB K9 hK9
        replace hC9 := hC9.before hG9 (by kernel_rfl)
        have d11 := FactN.eq (hB 11 _ (by kernel_rfl) (by kernel_rfl) rfl (by decide))
        simp only [d11] at hK9 ⊢
        have q0 : w9.cell? ⟨w.heap.size, 0, none⟩ = some (.slice x.TA x.t.length x.tc) := (L1b.below hC9 L1b.lt).cell 0
        simp only [Act.put, List.setIfInBounds_toArray, List.set_cons_zero, List.set_cons_succ] at hK9
        go_simp
        exact hK9 _ _ rfl (Sw.stay hG9 (by kernel_rfl) (by decide) hC9) (fun _ => Below.refl _ _)
      apply wpFactsR_val
      case h1 =>
        intro vs L9 w9 hG9 hC9 hB K9 hK9
        replace hC9 := hC9.before hG9 (by kernel_rfl)
        simp only [Act.put, List.setIfInBounds_toArray, List.set_cons_zero, List.set_cons_succ] at hK9
        go_simp
        exact hK9 _ _ rfl (Sw.stay hG9 (by kernel_rfl) (by decide) hC9) (fun _ => Below.refl _ _)
      refine wpFactsR_some [] (fun v w9 => ∃ A, v = .slice A (x.t.length - k) (x.tc - k) ∧ ∀ W9, Below W4.heap.size W4 W9 → SlcR W9 W4.heap.size 2 A (x.t.length - k) ((x.t.flatMap Tray.enc).drop (k * 2))) ?sc14 (fun vs L9 w9 hG9 hC9 hB K9 hK9 => ?hc14) ?rc14
      case sc14 =>
        intro i9 hi9 hb9 ha9 v w1 w2 hv hT9
        exact hv
      case hc14 =>
        replace hC9 := hC9.before hG9 (by kernel_rfl)
        have d12 := FactN.eq (hB 12 _ (by kernel_rfl) (by kernel_rfl) rfl (by decide))
        have d13 := FactN.eq (hB 13 _ (by kernel_rfl) (by kernel_rfl) rfl (by decide))
        simp only [d12, d13] at hK9 ⊢
        simp only [Act.put, List.setIfInBounds_toArray, List.set_cons_zero, List.set_cons_succ] at hK9
        refine step_sliceFrom rfl 22 74 (.tmp 60) (.tmp 61) rfl Try.underlying22 2 infoTray_size x.TA x.t.length x.tc k (by rfl) (by rfl) hk hcap ?_
        intro A' hA9
        exact hK9 _ _ _ rfl ⟨A', rfl, fun W9 hW => hA9 _ _ _ (SlcR.below hR4.ts hW)⟩ (Sw.stay hG9 (by kernel_rfl) (by decide) hC9) (fun _ => Below.refl _ _)
      refine wpFactsR_some [17] (fun v w9 => ∃ A c, v = .slice A (k + 1 + (x.t.length - k)) c ∧ w9.ownsRow W4.heap.size 74 2 (.slice A (k + 1 + (x.t.length - k)) c) (k + 1 + (x.t.length - k)) (((x.t.flatMap Tray.enc).take (k * 2) ++ [.int .i64 kd, .int .i64 n]) ++ (x.t.flatMap Tray.enc).drop (k * 2))) ?sc15 (fun vs L9 w9 hG9 hC9 hB K9 hK9 => ?hc15) ?rc15
      case sc15 =>
        intro i9 hi9 hb9 ha9 v w1 w2 hv hT9
        have hb := hT9 (fun hm => by
          simp only [List.mem_cons, List.not_mem_nil, or_false] at hm hb9
          rcases hm with rfl | rfl | rfl
          · exact absurd (ha9.symm.trans (show ahead .any _ _ _ _ = true by kernel_rfl)) (by decide)
          · exact hi9 rfl
          · exact hb9 (by simp))
        obtain ⟨A, c, e, ho⟩ := hv
        exact ⟨A, c, e, ownsRow_below ho hb⟩
      case hc15 =>
        replace hC9 := hC9.before hG9 (by kernel_rfl)
        simp only [Act.put, List.setIfInBounds_toArray, List.set_cons_zero, List.set_cons_succ] at hK9
        obtain ⟨A, c, e10, ho⟩ := hB 10 _ (by kernel_rfl) (by kernel_rfl) rfl (by decide)
        obtain ⟨A14, e14, hr⟩ := hB 14 _ (by kernel_rfl) (by kernel_rfl) rfl (by decide)
        simp only [e10, e14] at hK9 ⊢
        refine step_cat rfl (.tmp 58) (.tmp 62) 22 rfl 74 _ 2 16 Try.underlying22 infoTray rfl (by omega) (by omega) W4.heap.size _ (k + 1) _ (by rfl) ho W4.heap.size A14 (x.t.length - k) (x.tc - k) _ (by rfl) (hr w9 hC9) (fun u hu => tray_cells u (List.mem_of_mem_drop hu)) (by omega) hC9.size ?_
        intro A' c' w' ho' _ hb
        exact hK9 _ _ _ rfl ⟨A', c', rfl, ho'⟩ (Sw.stay hG9 (by kernel_rfl) (by decide) (hC9.trans hb)) (fun hq => (hq (by decide)).elim)
      apply wpFactsR_val
      case h1 =>
        intro vs L9 w9 hG9 hC9 hB K9 hK9
        replace hC9 := hC9.before hG9 (by kernel_rfl)
        simp only [Act.put, List.setIfInBounds_toArray, List.set_cons_zero, List.set_cons_succ] at hK9
        go_simp
        exact hK9 _ _ rfl (Sw.stay hG9 (by kernel_rfl) (by decide) hC9) (fun _ => Below.refl _ _)
      refine wpFactsR_val (undef) (fun vs L9 w9 hG9 hC9 hB K9 hK9 => ?hc17) ?rc17
      case hc17 =>
        replace hC9 := hC9.here hG9
        have d16 := FactN.eq (hB 16 _ (by kernel_rfl) (by kernel_rfl) rfl (by decide))
        simp only [d16] at hK9 ⊢
        obtain ⟨A, c, e15, ho⟩ := hB 15 _ (by kernel_rfl) (by kernel_rfl) rfl (by decide)
        simp only [e15] at hK9 ⊢
        have P9 := P1b.below hC9 P1b.lt
        have q0 := P9.cell 0
        have f0 := P9.frozen 0
        simp only [List.getElem?_cons_zero] at q0
        have ho := Lib.hid ho
        go_simp
        exact hK9 _ _ rfl (Sw.turn ⟨w9, A, c, hC9, ho.out, rfl⟩) (fun hq => (hq (by decide)).elim)
      refine wpFactsR_nil fun vs L9 w9 hL9 hC9 hB => ?_
      replace hC9 := hC9.done hL9 (by decide)
      obtain ⟨W8, A, c, hb8, ho8, rfl⟩ := hC9
      clear hB hL9
      have P8 := P1b.below hb8 P1b.lt
      have hoT := ownsRow_setOther ho8 P8 ne_owt 0 (.slice A (k + 1 + (x.t.length - k)) c)
      have hoO := ownsRow_setOther (ownsRow_below hO4 hb8) P8 ne_owo 0 (.slice A (k + 1 + (x.t.length - k)) c)
      have P9 := P8.set 0 (.slice A (k + 1 + (x.t.length - k)) c)
      have L2c := (L2b.below hb8 L2b.lt).other (p := ⟨W2.heap.size, 0, none⟩) (by simp; omega) (.slice A (k + 1 + (x.t.length - k)) c)
      have b9 := (b4.trans (hb8.mono b4.size)).setCell (p := ⟨W2.heap.size, 0, none⟩) hg7 (.slice A (k + 1 + (x.t.length - k)) c)
      have hoT := ownsRow_lower hoT b4.size
      generalize W8.setCell ⟨W2.heap.size, 0, none⟩ (.slice A (k + 1 + (x.t.length - k)) c) = W9 at hoT hoO P9 L2c b9 ⊢
      have HT := Lib.hid (stOff_row (v0 := .slice A (k + 1 + (x.t.length - k)) c) (v1 := .slice OA x.o.length oc) (v2 := .int .i64 x.got) (v3 := .int .i64 x.sold) (v4 := .int .i64 x.missed) L2c hoT ne_owt)
      have HO := Lib.hid (stOff_row (v0 := .slice A (k + 1 + (x.t.length - k)) c) (v1 := .slice OA x.o.length oc) (v2 := .int .i64 x.got) (v3 := .int .i64 x.sold) (v4 := .int .i64 x.missed) L2c hoO ne_owo)
      have bz := b9.trans (stOff_below (v0 := .slice A (k + 1 + (x.t.length - k)) c) (v1 := .slice OA x.o.length oc) (v2 := .int .i64 x.got) (v3 := .int .i64 x.sold) (v4 := .int .i64 x.missed) L2c (Nat.le_succ _))
      simp only [List.set_cons_zero] at P9
      have k0 := P9.cell 0
      have k1 := P9.cell 1
      have k2 := P9.cell 2
      have k3 := P9.cell 3
      have k4 := P9.cell 4
      simp only [List.getElem?_cons_zero, List.getElem?_cons_succ] at k0 k1 k2 k3 k4
      have z0 := L2c.cell 0
      have z1 := L2c.cell 1
      have z2 := L2c.cell 2
      have z3 := L2c.cell 3
      have z4 := L2c.cell 4
      simp only [List.getElem?_cons_zero, List.getElem?_cons_succ] at z0 z1 z2 z3 z4
      have f0 := L2c.frozen 0
      have f1 := L2c.frozen 1
      have f2 := L2c.frozen 2
      have f3 := L2c.frozen 3
      have f4 := L2c.frozen 4
      clear hoT hoO P9 P8 L2c ho8 c0
      go_wp2
      refine bodyPost_ret (v := .agg #[.slice A (k + 1 + (x.t.length - k)) c, .slice OA x.o.length oc, .int .i64 x.got, .int .i64 x.sold, .int .i64 x.missed]) (by simp [results, Try.results72, go_sem, *]) rfl ?_
      rw [HIN.out, HK.out]
      have hlen : ((x.t.take k ++ [(⟨kd, n⟩ : Tray)]) ++ x.t.drop k).length = k + 1 + (x.t.length - k) := by
        rw [List.length_append, List.length_append, List.length_take, List.length_drop, List.length_singleton, Nat.min_eq_left hk]
      have hcs : (((x.t.take k ++ [(⟨kd, n⟩ : Tray)]) ++ x.t.drop k).flatMap Tray.enc) = (((x.t.flatMap Tray.enc).take (k * 2) ++ [.int .i64 kd, .int .i64 n]) ++ (x.t.flatMap Tray.enc).drop (k * 2)) := by
        rw [List.flatMap_append, List.flatMap_append, flat_take Tray.enc 2 Tray.enc_len, flat_drop Tray.enc 2 Tray.enc_len]
        rfl
      exact GivesOff.of hlen rfl rfl (by rw [hlen, hcs]; exact HT.out) HO.out bz

end Go.Proofs.Ytdiojhjkcholiaa
