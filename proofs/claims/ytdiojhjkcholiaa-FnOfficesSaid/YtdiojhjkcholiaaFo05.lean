/- Fo05: the texts FactsN FactsR Draw FactsT SpecOwn OffHeld StepOps, joined into one file. -/
import Derived.Deep.DeepCutAuto
import Derived.Deep.RegionLawGrows
import Derived.Test.YtdiojhjkcholiaaFo03
import Derived.Test.YtdiojhjkcholiaaFo04

/- A region whose order is drawn: one fact on each operation, which may also speak of one operation that comes ahead; each operation has its own way to turn the world (T k). -/
namespace Go.Proofs.Ytdiojhjkcholiaa
open Go.RowKit

/-- A fact on an operation's value, and on the value of one that comes ahead of it. -/
structure FactN where
  D : Nat
  R : Value → Value → World → Prop
  Br : List Nat := []
def FactN.at (f : FactN) (vs : Nat → Value) (j : Nat) (w : World) : Prop := f.R (vs f.D) (vs j) w
/-- No other operation that may come behind it turns the fact. -/
def FactN.firm (ops : Array Oper) (T : Nat → World → World → Prop) (j : Nat) (f : FactN) : Prop := ∀ i, i ≠ j → i ∉ f.Br → ahead .any ops ops.size j i = false → ∀ u v w w', f.R u v w → T i w w' → f.R u v w'
/-- The fact still stands when operation k comes. -/
def FactN.live (ops : Array Oper) (k : Nat) (f : FactN) : Bool := f.Br.all fun i => i == k || ahead .any ops ops.size i k
def FactN.fine (ops : Array Oper) (j : Nat) (f : FactN) : Prop := (∀ u u' v w, f.R u v w → f.R u' v w) ∨ ahead .any ops ops.size j f.D = true
theorem FactN.eq {V : Value} {vs : Nat → Value} {j : Nat} {w : World} (h : FactN.at ⟨0, fun _ v _ => v = V, []⟩ vs j w) : vs j = V := h
/-- What has come up when operation k comes. -/
structure Gone (ops : Array Oper) (L : Nat → Bool) (k : Nat) : Prop where
  self : L k = false
  done : ∀ j, ahead .any ops ops.size k j = true → L j = true
  open_ : ∀ j, ahead .any ops ops.size j k = true → L j = false
def Listed.but (L : Nat → Bool) (k : Nat) : Nat → Bool := fun j => if j = k then true else L j
section
variable {P : Program} {ops : Array Oper} {Q : Exit → Act → World → Prop}

/-- The walk: a fact R on each operation's value; the facts of those that come ahead are at hand. -/
def wpFactsN (P : Program) (ops : Array Oper) (Q : Exit → Act → World → Prop) (C : (Nat → Bool) → World → Prop) (T : Nat → World → World → Prop) (fr : (Nat → Value) → Act) : Nat → List Oper → List FactN → Prop
  | _, [], Rs => ∀ vs L w, (∀ j, j < ops.size → L j = true) → C L w → (∀ (j : Nat) (R : FactN), R.Br = [] → Rs[j]? = some R → R.at vs j w) → Q .normal (fr vs) w
  | k, o :: l, Rs => ∃ R : FactN, R.fine ops k ∧ R.firm ops T k ∧
    (∀ vs L w, Gone ops L k → C L w → (∀ (j : Nat) (R' : FactN), ahead .any ops ops.size k j = true → R'.live ops k = true → Rs[j]? = some R' → R'.at vs j w) → ∀ K : Act → World → Prop, (∀ a' v w', a' = (fr vs).put o.dst v → R.R (vs R.D) v w' → C (Listed.but L k) w' → T k w w' → K a' w') →
      if Region.wanted o (yielded ops (fr vs).tmps) = true then o.wp P (fr vs) w K Q else K ((fr vs).put o.dst undef) w) ∧
    wpFactsN P ops Q C T fr (k + 1) l (Rs ++ [R])

/-- What the walk gives: the facts, one for each operation. -/
theorem wpFactsN_all {C : (Nat → Bool) → World → Prop} {T : Nat → World → World → Prop} {fr : (Nat → Value) → Act} : ∀ (l : List Oper) (k : Nat) (Rs : List FactN), (∀ i, l[i]? = ops[k + i]?) → Rs.length = k →
    (∀ (j : Nat) (R : FactN), Rs[j]? = some R → R.fine ops j ∧ R.firm ops T j) →
    (∀ (j : Nat) (o : Oper) (R : FactN), j < k → ops[j]? = some o → Rs[j]? = some R → ∀ vs L w, Gone ops L j → C L w → (∀ (j' : Nat) (R' : FactN), ahead .any ops ops.size j j' = true → R'.live ops j = true → j' < j → Rs[j']? = some R' → R'.at vs j' w) → ∀ K : Act → World → Prop, (∀ a' v w', a' = (fr vs).put o.dst v → R.R (vs R.D) v w' → C (Listed.but L j) w' → T j w w' → K a' w') →
      if Region.wanted o (yielded ops (fr vs).tmps) = true then o.wp P (fr vs) w K Q else K ((fr vs).put o.dst undef) w) →
    wpFactsN P ops Q C T fr k l Rs →
    ∃ Rs' : List FactN, Rs'.length = k + l.length ∧ (∀ (j : Nat) (R : FactN), Rs'[j]? = some R → R.fine ops j ∧ R.firm ops T j) ∧
    (∀ (j : Nat) (o : Oper) (R : FactN), ops[j]? = some o → Rs'[j]? = some R → ∀ vs L w, Gone ops L j → C L w → (∀ (j' : Nat) (R' : FactN), ahead .any ops ops.size j j' = true → R'.live ops j = true → j' < j → Rs'[j']? = some R' → R'.at vs j' w) → ∀ K : Act → World → Prop, (∀ a' v w', a' = (fr vs).put o.dst v → R.R (vs R.D) v w' → C (Listed.but L j) w' → T j w w' → K a' w') →
      if Region.wanted o (yielded ops (fr vs).tmps) = true then o.wp P (fr vs) w K Q else K ((fr vs).put o.dst undef) w) ∧
    (∀ vs L w, (∀ j, j < ops.size → L j = true) → C L w → (∀ (j : Nat) (R : FactN), R.Br = [] → Rs'[j]? = some R → R.at vs j w) → Q .normal (fr vs) w)
  | [], k, Rs, hl, hlen, hst, hop, h => by
    refine ⟨Rs, by simpa using hlen, hst, fun j o R ho hR => hop j o R ?_ ho hR, h⟩
    rw [← hlen]; exact (List.getElem?_eq_some_iff.1 hR).1
  | o :: l, k, Rs, hl, hlen, hst, hop, h => by
    obtain ⟨R, hRf, hRs, hRo, hrest⟩ := h
    have ho : ops[k]? = some o := by simpa using (hl 0).symm
    have hold : ∀ j, j < k → (Rs ++ [R])[j]? = Rs[j]? := fun j hj => List.getElem?_append_left (by omega)
    have hnew : (Rs ++ [R])[k]? = some R := by rw [List.getElem?_append_right (by omega), hlen]; simp
    obtain ⟨Rs', h1, h2, h3, h4⟩ := wpFactsN_all l (k + 1) (Rs ++ [R]) (fun i => by have := hl (i + 1); simpa [Nat.add_assoc, Nat.add_comm 1 i] using this) (by simp [hlen])
      (fun j R' hR' => by
        rcases Nat.lt_trichotomy j k with hj | hj | hj
        · rw [hold j hj] at hR'; exact hst j R' hR'
        · subst hj; rw [hnew] at hR'; cases hR'; exact ⟨hRf, hRs⟩
        · rw [List.getElem?_eq_none (by simp [hlen]; omega)] at hR'; cases hR')
      (fun j o' R' hj ho' hR' vs L w hG hC hB K hK => by
        rcases Nat.lt_or_ge j k with hjk | hjk
        · rw [hold j hjk] at hR'
          exact hop j o' R' hjk ho' hR' vs L w hG hC (fun j' R'' ha hv hlt h'' => hB j' R'' ha hv hlt (by rw [hold j' (by omega)]; exact h'')) K hK
        · obtain rfl : j = k := by omega
          rw [ho] at ho'; cases ho'
          rw [hnew] at hR'; cases hR'
          refine hRo vs L w hG hC (fun j' R'' ha hv h'' => ?_) K hK
          have hlt : j' < Rs.length := (List.getElem?_eq_some_iff.1 h'').1
          exact hB j' R'' ha hv (by omega) (by rw [hold j' (by omega)]; exact h''))
      hrest
    exact ⟨Rs', by rw [h1]; simp; omega, h2, h3, h4⟩

theorem getD_set_self {i : Nat} {listed : Array Bool} (h : i < listed.size) : (listed.setIfInBounds i true).getD i false = true := by simp [h]
theorem wpAny_factsN {C : (Nat → Bool) → World → Prop} {T : Nat → World → World → Prop} {a₀ : Act} (hap : dstsApart ops.toList = true) (hdn : edgesDown .any ops = true) (Rs : List FactN) (hlen : Rs.length = ops.size)
    (hst : ∀ (j : Nat) (R : FactN), Rs[j]? = some R → R.fine ops j ∧ R.firm ops T j)
    (hop : ∀ (j : Nat) (o : Oper) (R : FactN), ops[j]? = some o → Rs[j]? = some R → ∀ vs L w, Gone ops L j → C L w → (∀ (j' : Nat) (R' : FactN), ahead .any ops ops.size j j' = true → R'.live ops j = true → j' < j → Rs[j']? = some R' → R'.at vs j' w) → ∀ K : Act → World → Prop, (∀ a' v w', a' = (fillOps vs ops.toList 0 a₀).put o.dst v → R.R (vs R.D) v w' → C (Listed.but L j) w' → T j w w' → K a' w') →
      if Region.wanted o (yielded ops (fillOps vs ops.toList 0 a₀).tmps) = true then o.wp P (fillOps vs ops.toList 0 a₀) w K Q else K ((fillOps vs ops.toList 0 a₀).put o.dst undef) w)
    (hend : ∀ vs L w, (∀ j, j < ops.size → L j = true) → C L w → (∀ (j : Nat) (R : FactN), R.Br = [] → Rs[j]? = some R → R.at vs j w) → Q .normal (fillOps vs ops.toList 0 a₀) w) :
    ∀ (fuel : Nat) (listed : Array Bool) (vs : Nat → Value) (w : World), listed.size = ops.size → unlisted ops.size listed ≤ fuel → Closed .any ops listed → C (fun j => listed.getD j false) w → (∀ (j : Nat) (R : FactN), listed.getD j false = true → (∀ i ∈ R.Br, listed.getD i false = false) → Rs[j]? = some R → R.at vs j w) →
      wpAny P .any ops Q fuel listed (fillOps vs ops.toList 0 a₀) w := by
  have hfin : ∀ (listed : Array Bool) (vs : Nat → Value) (w : World), listed.size = ops.size → C (fun j => listed.getD j false) w → (∀ (j : Nat) (R : FactN), listed.getD j false = true → (∀ i ∈ R.Br, listed.getD i false = false) → Rs[j]? = some R → R.at vs j w) → Region.ready .any ops listed = [] → Q .normal (fillOps vs ops.toList 0 a₀) w :=
    fun listed vs w hs hC hR hr => hend vs _ w (fun j hj => listed_ready hdn hs hr j hj) hC fun j R hbr hj => hR j R (listed_ready hdn hs hr j (by rw [← hlen]; exact (List.getElem?_eq_some_iff.1 hj).1)) (by rw [hbr]; intro i hi; cases hi) hj
  intro fuel
  induction fuel with
  | zero =>
    intro listed vs w hs hu hcl hC hR
    have hr : Region.ready .any ops listed = [] := by
      rw [List.eq_nil_iff_forall_not_mem]
      intro j hj
      obtain ⟨h0, o, ho, _⟩ := mem_ready.1 hj
      have hjs : j < ops.size := (Array.getElem?_eq_some_iff.1 ho).1
      have : unlisted ops.size (listed.setIfInBounds j true) < unlisted ops.size listed := unlisted_set hjs hs (by
        have : j < listed.size := by omega
        simp only [Array.getD, this, ↓reduceDIte] at h0 ⊢; exact h0)
      omega
    exact ⟨hr, hfin listed vs w hs hC hR hr⟩
  | succ fuel ih =>
    intro listed vs w hs hu hcl hC hR
    refine ⟨hfin listed vs w hs hC hR, fun i hi => ?_⟩
    obtain ⟨h0, o, ho, hall⟩ := mem_ready.1 hi
    have hisz : i < ops.size := (Array.getElem?_eq_some_iff.1 ho).1
    have hil : i < listed.size := by omega
    have h0' : listed.getD i false = false := by simp only [Array.getD, hil, ↓reduceDIte] at h0 ⊢; exact h0
    obtain ⟨R, hRi⟩ : ∃ R, Rs[i]? = some R := ⟨Rs[i]'(by omega), List.getElem?_eq_getElem (by omega)⟩
    have hclo : ∀ j, ahead .any ops ops.size i j = true → listed.getD j false = true := fun j ha => ahead_listed hcl ops.size i j (fun o' ho' => by rw [ho] at ho'; cases ho'; exact hall) ha
    have hopn : ∀ j, ahead .any ops ops.size j i = true → listed.getD j false = false := fun j ha => by
      rcases hq : listed.getD j false with _ | _
      · rfl
      · have hl := ahead_listed hcl ops.size j i (fun o' ho' => hcl j o' ho' hq) ha
        rw [h0'] at hl; cases hl
    have hstep := hop i o R ho hRi vs (fun j => listed.getD j false) w ⟨h0', hclo, hopn⟩ hC (fun j' R' ha hv _ hR' => hR j' R' (ahead_listed hcl ops.size i j' (fun o' ho' => by rw [ho] at ho'; cases ho'; exact hall) ha) (fun i' hi' => by
        have hv' := List.all_eq_true.1 hv i' hi'
        simp only [Bool.or_eq_true, beq_iff_eq] at hv'
        rcases hv' with rfl | hv'
        · exact h0'
        · rcases hq : listed.getD i' false with _ | _
          · rfl
          · have hl := ahead_listed hcl ops.size i' i (fun o' ho' => hcl i' o' ho' hq) hv'
            rw [h0'] at hl; cases hl) hR')
      (wpAny P .any ops Q fuel (listed.setIfInBounds i true)) (fun a' v w' ha hRv hC' hT => by
        rw [ha, fillOps_upd ops.toList 0 a₀ vs i o v hap (by simpa using ho), Nat.zero_add]
        have hC9 : C (fun j => (listed.setIfInBounds i true).getD j false) w' := by
          have e : (fun j => (listed.setIfInBounds i true).getD j false) = Listed.but (fun j => listed.getD j false) i := by
            funext j
            unfold Listed.but
            by_cases e : j = i
            · subst e; rw [if_pos rfl]; exact getD_set_self hil
            · rw [if_neg e]; exact getD_set_ne false (Ne.symm e)
          rw [e]; exact hC'
        refine ih _ _ _ (by simpa using hs) ?_ ?_ hC9 ?_
        · have := unlisted_set hisz hs h0'; omega
        · intro j oj hoj hj e he hb
          by_cases hji : j = i
          · subst hji; rw [ho] at hoj; cases hoj; exact getD_set_true (hall e he hb)
          · rw [getD_set_ne false (Ne.symm hji)] at hj; exact getD_set_true (hcl j oj hoj hj e he hb)
        · intro j R' hj hbr hR'
          have key : ∀ (u' : Value), R'.R (vs R'.D) u' w' → R'.R (upd vs i v R'.D) u' w' := fun u' h => by
            by_cases hDi : R'.D = i
            · rcases (hst j R' hR').1 with hf | ha
              · exact hf _ _ _ _ h
              · exfalso
                have hl : listed.getD R'.D false = true := by
                  by_cases hji : j = i
                  · subst hji; exact ahead_listed hcl ops.size j _ (fun o' ho' => by rw [ho] at ho'; cases ho'; exact hall) ha
                  · rw [getD_set_ne false (Ne.symm hji)] at hj
                    exact ahead_listed hcl ops.size j _ (fun o' ho' => hcl j o' ho' hj) ha
                rw [hDi, h0'] at hl; cases hl
            · have : upd vs i v R'.D = vs R'.D := by unfold upd; rw [if_neg hDi]
              rw [this]; exact h
          unfold FactN.at
          by_cases hji : j = i
          · subst hji; rw [hRi] at hR'; cases hR'
            have : upd vs j v j = v := by unfold upd; rw [if_pos rfl]
            rw [this]
            exact key v hRv
          · rw [getD_set_ne false (Ne.symm hji)] at hj
            have hai : ahead .any ops ops.size j i = false := by
              rcases hq : ahead .any ops ops.size j i with _ | _
              · rfl
              · have hl := ahead_listed hcl ops.size j i (fun o' ho' => hcl j o' ho' hj) hq
                rw [h0'] at hl; cases hl
            have hib : i ∉ R'.Br := fun hm => by have h1 := hbr i hm; rw [getD_set_self hil] at h1; cases h1
            have hbr' : ∀ i' ∈ R'.Br, listed.getD i' false = false := fun i' hm => by
              have h1 := hbr i' hm
              by_cases e : i' = i
              · subst e; exact absurd hm hib
              · rwa [getD_set_ne false (Ne.symm e)] at h1
            have h3 := (hst j R' hR').2 i (Ne.symm hji) hib hai _ _ _ _ (hR j R' hj hbr' hR') hT
            have : upd vs i v j = vs j := by unfold upd; rw [if_neg hji]
            rw [this]
            refine key _ ?_
            exact h3)
    unfold wpOp
    simp only [ho]
    split
    · rename_i hw; rw [if_pos hw] at hstep; exact .inl hstep
    · rename_i hw; rw [if_neg hw] at hstep; exact hstep

/-- The region. -/
theorem wp_region_factsN {id : Nat} {a : Act} {w : World} {l : List Oper} (C : (Nat → Bool) → World → Prop) (T : Nat → World → World → Prop) (hm : P.follows .mixedOrders = true) (hap : dstsApart l = true) (hdn : edgesDown .any l.toArray = true)
    (hC : C (fun _ => false) w.drew) (h : wpFactsN P l.toArray Q C T (fun vs => fillOps vs l 0 a) 0 l []) : (Code.region id l.toArray true).wp P Q a w := by
  refine wp_region_any hm ?_
  obtain ⟨Rs, h1, h2, h3, h4⟩ := wpFactsN_all (ops := l.toArray) l 0 [] (by simp) rfl (by simp) (by simp) h
  obtain ⟨vs, hvs⟩ : ∃ vs : Nat → Value, ∀ i o t, l[i]? = some o → o.dst = some t → vs (0 + i) = a.tmps.getD t undef :=
    ⟨fun i => match (l[i]?).bind (·.dst) with | some t => a.tmps.getD t undef | none => undef, fun i o t hi ht => by simp [hi, ht]⟩
  have := wpAny_factsN (P := P) (Q := Q) (ops := l.toArray) (C := C) (T := T) (a₀ := a) hap hdn Rs (by simpa using h1) h2 h3 h4 l.toArray.size (Array.replicate l.toArray.size false) vs w.drew (by simp)
    (Nat.le_trans (List.length_filter_le _ _) (by simp)) (fun j o hj hl => by simp [Array.getD] at hl) (by
      have e : (fun j => (Array.replicate l.toArray.size false).getD j false) = fun _ => false := by funext j; simp [Array.getD]
      rw [e]; exact hC) (fun j R hl => by simp [Array.getD] at hl)
  rwa [fillOps_self vs _ 0 a (by simpa using hvs)] at this

theorem wpFactsN_nil {C : (Nat → Bool) → World → Prop} {T : Nat → World → World → Prop} {fr : (Nat → Value) → Act} {k : Nat} {Rs : List FactN} (h : ∀ vs L w, (∀ j, j < ops.size → L j = true) → C L w → (∀ (j : Nat) (R : FactN), R.Br = [] → Rs[j]? = some R → R.at vs j w) → Q .normal (fr vs) w) : wpFactsN P ops Q C T fr k [] Rs := h
/-- An operation with one value. -/
theorem wpFactsN_val {C : (Nat → Bool) → World → Prop} {T : Nat → World → World → Prop} {fr : (Nat → Value) → Act} {k : Nat} {o : Oper} {l : List Oper} {Rs : List FactN} (V : Value)
    (h1 : ∀ vs L w, Gone ops L k → C L w → (∀ (j : Nat) (R' : FactN), ahead .any ops ops.size k j = true → R'.live ops k = true → Rs[j]? = some R' → R'.at vs j w) → ∀ K : Act → World → Prop, (∀ a' w', a' = (fr vs).put o.dst V → C (Listed.but L k) w' → T k w w' → K a' w') →
      if Region.wanted o (yielded ops (fr vs).tmps) = true then o.wp P (fr vs) w K Q else K ((fr vs).put o.dst undef) w)
    (h2 : wpFactsN P ops Q C T fr (k + 1) l (Rs ++ [⟨0, fun _ v _ => v = V, []⟩])) : wpFactsN P ops Q C T fr k (o :: l) Rs :=
  ⟨⟨0, fun _ v _ => v = V, []⟩, .inl (fun _ _ _ _ h => h), fun _ _ _ _ _ _ _ _ h _ => h, fun vs L w hG hC hB K hK => h1 vs L w hG hC hB K fun a' w' ha hC' hT => hK a' V w' ha rfl hC' hT, h2⟩
/-- An operation whose value has a property. -/
theorem wpFactsN_some {C : (Nat → Bool) → World → Prop} {T : Nat → World → World → Prop} {fr : (Nat → Value) → Act} {k : Nat} {o : Oper} {l : List Oper} {Rs : List FactN} (Br : List Nat) (R : Value → World → Prop) (hR : ∀ i, i ≠ k → i ∉ Br → ahead .any ops ops.size k i = false → ∀ v w w', R v w → T i w w' → R v w')
    (h1 : ∀ vs L w, Gone ops L k → C L w → (∀ (j : Nat) (R' : FactN), ahead .any ops ops.size k j = true → R'.live ops k = true → Rs[j]? = some R' → R'.at vs j w) → ∀ K : Act → World → Prop, (∀ a' v w', a' = (fr vs).put o.dst v → R v w' → C (Listed.but L k) w' → T k w w' → K a' w') →
      if Region.wanted o (yielded ops (fr vs).tmps) = true then o.wp P (fr vs) w K Q else K ((fr vs).put o.dst undef) w)
    (h2 : wpFactsN P ops Q C T fr (k + 1) l (Rs ++ [⟨0, fun _ v w => R v w, Br⟩])) : wpFactsN P ops Q C T fr k (o :: l) Rs :=
  ⟨⟨0, fun _ v w => R v w, Br⟩, .inl (fun _ _ _ _ h => h), fun i hi hb ha _ v w w' h t => hR i hi hb ha v w w' h t, h1, h2⟩
/-- An operation whose value has a property that speaks of an operation ahead. -/
theorem wpFactsN_pair {C : (Nat → Bool) → World → Prop} {T : Nat → World → World → Prop} {fr : (Nat → Value) → Act} {k : Nat} {o : Oper} {l : List Oper} {Rs : List FactN} (Br : List Nat) (D : Nat) (R : Value → Value → World → Prop) (hD : ahead .any ops ops.size k D = true) (hR : ∀ i, i ≠ k → i ∉ Br → ahead .any ops ops.size k i = false → ∀ u v w w', R u v w → T i w w' → R u v w')
    (h1 : ∀ vs L w, Gone ops L k → C L w → (∀ (j : Nat) (R' : FactN), ahead .any ops ops.size k j = true → R'.live ops k = true → Rs[j]? = some R' → R'.at vs j w) → ∀ K : Act → World → Prop, (∀ a' v w', a' = (fr vs).put o.dst v → R (vs D) v w' → C (Listed.but L k) w' → T k w w' → K a' w') →
      if Region.wanted o (yielded ops (fr vs).tmps) = true then o.wp P (fr vs) w K Q else K ((fr vs).put o.dst undef) w)
    (h2 : wpFactsN P ops Q C T fr (k + 1) l (Rs ++ [⟨D, R, Br⟩])) : wpFactsN P ops Q C T fr k (o :: l) Rs :=
  ⟨⟨D, R, Br⟩, .inr hD, hR, h1, h2⟩
end
/-- One thing holds until operation s has been, another from then on. -/
def Sw (s : Nat) (C0 C1 : World → Prop) (L : Nat → Bool) (w : World) : Prop := if L s = true then C1 w else C0 w
section
variable {ops : Array Oper} {s k : Nat} {C0 C1 : World → Prop} {L : Nat → Bool} {w w' : World}
theorem Sw.start (h : C0 w) : Sw s C0 C1 (fun _ => false) w := by unfold Sw; rw [if_neg (by simp)]; exact h
theorem Sw.before (hG : Gone ops L k) (ha : ahead .any ops ops.size s k = true) (h : Sw s C0 C1 L w) : C0 w := by
  unfold Sw at h; rwa [if_neg (by rw [hG.open_ s ha]; simp)] at h
theorem Sw.stay (hG : Gone ops L k) (ha : ahead .any ops ops.size s k = true) (hne : s ≠ k) (h : C0 w) : Sw s C0 C1 (Listed.but L k) w := by
  unfold Sw Listed.but; rw [if_neg (by rw [if_neg hne, hG.open_ s ha]; simp)]; exact h
theorem Sw.here (hG : Gone ops L s) (h : Sw s C0 C1 L w) : C0 w := by unfold Sw at h; rwa [if_neg (by rw [hG.self]; simp)] at h
theorem Sw.turn (h : C1 w) : Sw s C0 C1 (Listed.but L s) w := by unfold Sw Listed.but; rw [if_pos (if_pos rfl)]; exact h
theorem Sw.after (hG : Gone ops L k) (ha : ahead .any ops ops.size k s = true) (h : Sw s C0 C1 L w) : C1 w := by unfold Sw at h; rwa [if_pos (hG.done s ha)] at h
theorem Sw.on (hG : Gone ops L k) (ha : ahead .any ops ops.size k s = true) (h : C1 w) : Sw s C0 C1 (Listed.but L k) w := by
  unfold Sw Listed.but; rw [if_pos (by rw [hG.done s ha]; simp)]; exact h
theorem Sw.both (hne : s ≠ k) (h0 : C0 w → C0 w') (h1 : C1 w → C1 w') (h : Sw s C0 C1 L w) : Sw s C0 C1 (Listed.but L k) w' := by
  unfold Sw Listed.but at *
  rw [if_neg hne]
  split at h
  · rename_i e; rw [if_pos e]; exact h1 h
  · rename_i e; rw [if_neg e]; exact h0 h
theorem Sw.done (hL : ∀ j, j < ops.size → L j = true) (hs : s < ops.size) (h : Sw s C0 C1 L w) : C1 w := by unfold Sw at h; rwa [if_pos (hL s hs)] at h
end
end Go.Proofs.Ytdiojhjkcholiaa

/- The facts law with its facts the other way round: cheap look-ups. -/
namespace Go.Proofs.Ytdiojhjkcholiaa
open Go.RowKit

section
variable {P : Program} {ops : Array Oper} {Q : Exit → Act → World → Prop}
/-- The same walk, the facts' list the other way round (its look-ups stay cheap). -/
def wpFactsR (P : Program) (ops : Array Oper) (Q : Exit → Act → World → Prop) (C : (Nat → Bool) → World → Prop) (T : Nat → World → World → Prop) (fr : (Nat → Value) → Act) : Nat → List Oper → List FactN → Prop
  | k, [], Rs => ∀ vs L w, (∀ j, j < ops.size → L j = true) → C L w → (∀ (j : Nat) (R : FactN), R.Br = [] → Rs[k - 1 - j]? = some R → j < k → R.at vs j w) → Q .normal (fr vs) w
  | k, o :: l, Rs => ∃ R : FactN, R.fine ops k ∧ R.firm ops T k ∧
    (∀ vs L w, Gone ops L k → C L w → (∀ (j : Nat) (R' : FactN), ahead .any ops ops.size k j = true → R'.live ops k = true → Rs[k - 1 - j]? = some R' → j < k → R'.at vs j w) → ∀ K : Act → World → Prop, (∀ a' v w', a' = (fr vs).put o.dst v → R.R (vs R.D) v w' → C (Listed.but L k) w' → T k w w' → K a' w') →
      if Region.wanted o (yielded ops (fr vs).tmps) = true then o.wp P (fr vs) w K Q else K ((fr vs).put o.dst undef) w) ∧
    wpFactsR P ops Q C T fr (k + 1) l (R :: Rs)
theorem rev_look {Rs : List FactN} {k j : Nat} {R : FactN} (hk : Rs.length = k) (h : Rs[k - 1 - j]? = some R) (hj : j < k) : Rs.reverse[j]? = some R := by
  rw [List.getElem?_reverse (by omega), hk]; exact h
theorem wpFactsR_N {C : (Nat → Bool) → World → Prop} {T : Nat → World → World → Prop} {fr : (Nat → Value) → Act} : ∀ (l : List Oper) (k : Nat) (Rs : List FactN), Rs.length = k → wpFactsR P ops Q C T fr k l Rs → wpFactsN P ops Q C T fr k l Rs.reverse
  | [], _, _, hk, h => fun vs L w hL hC hB => h vs L w hL hC fun j R hb hR hj => hB j R hb (rev_look hk hR hj)
  | _ :: l, k, Rs, hk, ⟨R, h1, h2, h3, h4⟩ => ⟨R, h1, h2, fun vs L w hG hC hB K hK => h3 vs L w hG hC (fun j R' ha hv hR hj => hB j R' ha hv (rev_look hk hR hj)) K hK, by
      have := wpFactsR_N l (k + 1) (R :: Rs) (by simp [hk]) h4
      rwa [List.reverse_cons] at this⟩
theorem wp_region_factsR {id : Nat} {a : Act} {w : World} {l : List Oper} (C : (Nat → Bool) → World → Prop) (T : Nat → World → World → Prop) (hm : P.follows .mixedOrders = true) (hap : dstsApart l = true) (hdn : edgesDown .any l.toArray = true)
    (hC : C (fun _ => false) w.drew) (h : wpFactsR P l.toArray Q C T (fun vs => fillOps vs l 0 a) 0 l []) : (Code.region id l.toArray true).wp P Q a w :=
  wp_region_factsN C T hm hap hdn hC (wpFactsR_N l 0 [] rfl h)
theorem wpFactsR_nil {C : (Nat → Bool) → World → Prop} {T : Nat → World → World → Prop} {fr : (Nat → Value) → Act} {k : Nat} {Rs : List FactN} (h : ∀ vs L w, (∀ j, j < ops.size → L j = true) → C L w → (∀ (j : Nat) (R : FactN), R.Br = [] → Rs[k - 1 - j]? = some R → j < k → R.at vs j w) → Q .normal (fr vs) w) : wpFactsR P ops Q C T fr k [] Rs := h
theorem wpFactsR_val {C : (Nat → Bool) → World → Prop} {T : Nat → World → World → Prop} {fr : (Nat → Value) → Act} {k : Nat} {o : Oper} {l : List Oper} {Rs : List FactN} (V : Value)
    (h1 : ∀ vs L w, Gone ops L k → C L w → (∀ (j : Nat) (R' : FactN), ahead .any ops ops.size k j = true → R'.live ops k = true → Rs[k - 1 - j]? = some R' → j < k → R'.at vs j w) → ∀ K : Act → World → Prop, (∀ a' w', a' = (fr vs).put o.dst V → C (Listed.but L k) w' → T k w w' → K a' w') →
      if Region.wanted o (yielded ops (fr vs).tmps) = true then o.wp P (fr vs) w K Q else K ((fr vs).put o.dst undef) w)
    (h2 : wpFactsR P ops Q C T fr (k + 1) l (⟨0, fun _ v _ => v = V, []⟩ :: Rs)) : wpFactsR P ops Q C T fr k (o :: l) Rs :=
  ⟨⟨0, fun _ v _ => v = V, []⟩, .inl (fun _ _ _ _ h => h), fun _ _ _ _ _ _ _ _ h _ => h, fun vs L w hG hC hB K hK => h1 vs L w hG hC hB K fun a' w' ha hC' hT => hK a' V w' ha rfl hC' hT, h2⟩
theorem wpFactsR_some {C : (Nat → Bool) → World → Prop} {T : Nat → World → World → Prop} {fr : (Nat → Value) → Act} {k : Nat} {o : Oper} {l : List Oper} {Rs : List FactN} (Br : List Nat) (R : Value → World → Prop) (hR : ∀ i, i ≠ k → i ∉ Br → ahead .any ops ops.size k i = false → ∀ v w w', R v w → T i w w' → R v w')
    (h1 : ∀ vs L w, Gone ops L k → C L w → (∀ (j : Nat) (R' : FactN), ahead .any ops ops.size k j = true → R'.live ops k = true → Rs[k - 1 - j]? = some R' → j < k → R'.at vs j w) → ∀ K : Act → World → Prop, (∀ a' v w', a' = (fr vs).put o.dst v → R v w' → C (Listed.but L k) w' → T k w w' → K a' w') →
      if Region.wanted o (yielded ops (fr vs).tmps) = true then o.wp P (fr vs) w K Q else K ((fr vs).put o.dst undef) w)
    (h2 : wpFactsR P ops Q C T fr (k + 1) l (⟨0, fun _ v w => R v w, Br⟩ :: Rs)) : wpFactsR P ops Q C T fr k (o :: l) Rs :=
  ⟨⟨0, fun _ v w => R v w, Br⟩, .inl (fun _ _ _ _ h => h), fun i hi hb ha _ v w w' h t => hR i hi hb ha v w w' h t, h1, h2⟩
theorem wpFactsR_pair {C : (Nat → Bool) → World → Prop} {T : Nat → World → World → Prop} {fr : (Nat → Value) → Act} {k : Nat} {o : Oper} {l : List Oper} {Rs : List FactN} (Br : List Nat) (D : Nat) (R : Value → Value → World → Prop) (hD : ahead .any ops ops.size k D = true) (hR : ∀ i, i ≠ k → i ∉ Br → ahead .any ops ops.size k i = false → ∀ u v w w', R u v w → T i w w' → R u v w')
    (h1 : ∀ vs L w, Gone ops L k → C L w → (∀ (j : Nat) (R' : FactN), ahead .any ops ops.size k j = true → R'.live ops k = true → Rs[k - 1 - j]? = some R' → j < k → R'.at vs j w) → ∀ K : Act → World → Prop, (∀ a' v w', a' = (fr vs).put o.dst v → R (vs D) v w' → C (Listed.but L k) w' → T k w w' → K a' w') →
      if Region.wanted o (yielded ops (fr vs).tmps) = true then o.wp P (fr vs) w K Q else K ((fr vs).put o.dst undef) w)
    (h2 : wpFactsR P ops Q C T fr (k + 1) l (⟨D, R, Br⟩ :: Rs)) : wpFactsR P ops Q C T fr k (o :: l) Rs :=
  ⟨⟨D, R, Br⟩, .inr hD, hR, h1, h2⟩
end
end Go.Proofs.Ytdiojhjkcholiaa

/- Regions of drawing functions, on the facts law: a cursor that goes on, blocks that stay. -/
namespace Go.Proofs.Ytdiojhjkcholiaa
open Go.RowKit

/-- How many of the first n operations have been. -/
def cntB (L : Nat → Bool) : Nat → Nat
  | 0 => 0
  | n + 1 => cntB L n + (if L n = true then 1 else 0)
theorem cntB_le (L : Nat → Bool) : ∀ n, cntB L n ≤ n
  | 0 => Nat.le_refl _
  | n + 1 => by have := cntB_le L n; rw [cntB]; split <;> omega
theorem cntB_same {L : Nat → Bool} {k : Nat} : ∀ n, n ≤ k → cntB (Listed.but L k) n = cntB L n
  | 0, _ => rfl
  | n + 1, h => by
    rw [cntB, cntB, cntB_same n (by omega)]
    have : Listed.but L k n = L n := by unfold Listed.but; rw [if_neg (by omega)]
    rw [this]
theorem cntB_but {L : Nat → Bool} {k : Nat} (hL : L k = false) : ∀ n, k < n → cntB (Listed.but L k) n = cntB L n + 1
  | 0, h => absurd h (by omega)
  | n + 1, h => by
    rw [cntB, cntB]
    by_cases e : n = k
    · subst e
      rw [cntB_same n (Nat.le_refl _), hL]
      have : Listed.but L n n = true := by unfold Listed.but; rw [if_pos rfl]
      rw [this]; simp
    · rw [cntB_but hL n (by omega)]
      have : Listed.but L k n = L n := by unfold Listed.but; rw [if_neg e]
      rw [this]; omega
theorem grownAny {w w' : World} (h : Below w.heap.size w w') (row : Option Nat) : w.grownBy w' row := ⟨h.os, h.tape, h.output, h.size, fun k hk _ => h.block k hk⟩
section
variable {w W : World} {g : Nat} {A : Option Addr} {bs : List UInt8} {cap m : Nat}
theorem Env.below {W' : World} (E : Env w W g A bs cap m) (h : Below W.heap.size W W') : Env w W' g A bs cap m :=
  ⟨E.cur.kept (row := none) (grownAny h _) (by simp), E.rd.keep fun p hp => h.cell (by have := E.lt; omega), grown_trans E.gr (grownAny h _)⟩
theorem Env.drew (E : Env w W g A bs cap m) : Env w W.drew g A bs cap m := ⟨E.cur, E.rd.keep fun _ _ => rfl, grown_drew E.gr⟩
/-- What holds of a block until an operation of the region has been. -/
structure Room where
  op : Nat
  blk : Option Nat
  P : World → Prop
  st : ∀ w w' row, w.grownBy w' row → (blk = none ∨ blk ≠ row) → P w → P w'
def Room.lies (k h : Nat) (t : TypeId) (cs : List Value) : Room := ⟨k, some h, fun w => Lies w h t cs, fun _ _ _ hg hb hL => hL.kept hg (hb.resolve_left (by simp))⟩
def Room.row (k B : Nat) (t : TypeId) (sz : Nat) (v : Value) (n : Nat) (xs : List Value) : Room := ⟨k, v.ownBlock, fun w => w.ownsRow B t sz v n xs, fun _ _ _ hg hb hL => hL.kept hg hb⟩
/-- The world in a drawing region: the cursor's, with all blocks as they lay, but those of X. -/
structure Dr (w W : World) (g : Nat) (A : Option Addr) (bs : List UInt8) (cap m K n : Nat) (X : List Nat) (R : List Room) (L : Nat → Bool) (W9 : World) : Prop where
  env : Env w W9 g A bs cap (m + K * cntB L n)
  size : W.heap.size ≤ W9.heap.size
  keep : ∀ k, k < W.heap.size → k ∉ X → W9.heap[k]? = W.heap[k]?
  room : ∀ p ∈ R, p.blk ≠ some g ∧ (L p.op = false → p.P W9)
variable {K n k : Nat} {X : List Nat} {R : List Room} {L : Nat → Bool} {W9 : World}
theorem Dr.start (E : Env w W g A bs cap m) (hr : ∀ p ∈ R, p.blk ≠ some g ∧ p.P W) : Dr w W g A bs cap m K n X R (fun _ => false) W.drew := by
  refine ⟨?_, Nat.le_refl _, fun _ _ _ => rfl, fun p hp => ⟨(hr p hp).1, fun _ => p.st W W.drew none (grown_drew (World.grownBy.refl W none)) (by cases p.blk <;> simp) (hr p hp).2⟩⟩
  have : cntB (fun _ => false) n = 0 := by
    induction n with
    | zero => rfl
    | succ n ih => rw [cntB, ih]; simp
  rw [this]; exact E.drew
theorem Listed.was {L : Nat → Bool} {k j : Nat} (h : Listed.but L k j = false) : L j = false ∧ j ≠ k := by
  unfold Listed.but at h
  split at h
  · cases h
  · exact ⟨h, by assumption⟩
theorem Dr.stay (h : Dr w W g A bs cap m K n X R L W9) (hL : L k = false) (hk : k < n) : Dr w W g A bs cap m K n X R (Listed.but L k) W9 :=
  ⟨h.env.mono (by rw [cntB_but hL n hk, Nat.mul_add]; omega), h.size, h.keep, fun p hp => ⟨(h.room p hp).1, fun hl => (h.room p hp).2 (Listed.was hl).1⟩⟩
theorem Dr.alloc (h : Dr w W g A bs cap m K n X R L W9) (hL : L k = false) (hk : k < n) (o : Obj) : Dr w W g A bs cap m K n X R (Listed.but L k) (W9.alloc o) :=
  ⟨(h.env.alloc o).mono (by rw [cntB_but hL n hk, Nat.mul_add]; omega), Nat.le_trans h.size (by simp), fun k hk' hX => (Below.heap_alloc W9 o k (Nat.lt_of_lt_of_le hk' h.size)).trans (h.keep k hk' hX), fun p hp => ⟨(h.room p hp).1, fun hl => p.st _ _ none (World.grownBy_alloc W9 o none) (by cases p.blk <;> simp) ((h.room p hp).2 (Listed.was hl).1)⟩⟩
theorem Dr.call {W8 : World} {m' : Nat} (h : Dr w W g A bs cap m K n X R L W9) (hL : L k = false) (hk : k < n) (E : Env w W8 g A bs cap m') (hm : m' ≤ m + K * cntB L n + K) (gr : W9.grownBy W8 (some g)) (hX : g ∈ X) : Dr w W g A bs cap m K n X R (Listed.but L k) W8 :=
  ⟨E.mono (by rw [cntB_but hL n hk, Nat.mul_add]; omega), Nat.le_trans h.size gr.size, fun k hk' hX' => (gr.block k (Nat.lt_of_lt_of_le hk' h.size) (by intro e; injection e with e; subst e; exact hX' hX)).trans (h.keep k hk' hX'), fun p hp => ⟨(h.room p hp).1, fun hl => p.st _ _ _ gr (.inr (h.room p hp).1) ((h.room p hp).2 (Listed.was hl).1)⟩⟩
theorem Dr.below {W8 : World} (h : Dr w W g A bs cap m K n X R L W9) (hL : L k = false) (hk : k < n) (hb : Below W9.heap.size W9 W8) : Dr w W g A bs cap m K n X R (Listed.but L k) W8 :=
  ⟨(h.env.below hb).mono (by rw [cntB_but hL n hk, Nat.mul_add]; omega), Nat.le_trans h.size hb.size, fun k hk' hX' => (hb.block k (Nat.lt_of_lt_of_le hk' h.size)).trans (h.keep k hk' hX'), fun p hp => ⟨(h.room p hp).1, fun hl => p.st _ _ none (grownAny hb none) (by cases p.blk <;> simp) ((h.room p hp).2 (Listed.was hl).1)⟩⟩
theorem Dr.wrote {W8 : World} {row : Option Nat} (h : Dr w W g A bs cap m K n X R L W9) (hL : L k = false) (hk : k < n) (gr : W9.grownBy W8 row) (hw : ∀ b, row = some b → w.heap.size ≤ b ∧ g < b ∧ (b ∈ X ∨ W.heap.size ≤ b)) (hr : ∀ p ∈ R, p.blk = row → p.op = k ∨ row = none) : Dr w W g A bs cap m K n X R (Listed.but L k) W8 := by
  have hE : Env w W8 g A bs cap (m + K * cntB L n) := by
    cases row with
    | none => exact ⟨h.env.cur.kept gr (by simp), h.env.rd.keep fun p hp => grown_cell gr p (by have := h.env.lt; omega) (by simp), grown_trans h.env.gr ⟨gr.os, gr.tape, gr.output, gr.size, fun j hj _ => gr.block j hj (by simp)⟩⟩
    | some b => exact h.env.wrote gr (hw b rfl).1 (hw b rfl).2.1
  refine ⟨hE.mono (by rw [cntB_but hL n hk, Nat.mul_add]; omega), Nat.le_trans h.size gr.size, fun k hk' hX' => (gr.block k (Nat.lt_of_lt_of_le hk' h.size) (by intro e; rcases (hw k e.symm).2.2 with h1 | h1; exact hX' h1; omega)).trans (h.keep k hk' hX'), fun p hp => ⟨(h.room p hp).1, fun hl => ?_⟩⟩
  obtain ⟨h1, h2⟩ := Listed.was hl
  refine p.st _ _ row gr ?_ ((h.room p hp).2 h1)
  by_cases e : p.blk = row
  · rcases hr p hp e with h3 | h3
    · exact absurd h3 h2
    · exact .inl (e.trans h3)
  · exact .inr e
theorem Dr.lies {b : Nat} {t : TypeId} {cs : List Value} (h : Dr w W g A bs cap m K n X R L W9) (hL : Lies W b t cs) (hX : b ∉ X) : Lies W9 b t cs := (h.keep b hL.lt hX).trans hL
theorem Dr.le (h : Dr w W g A bs cap m K n X R L W9) : Env w W9 g A bs cap (m + K * n) := h.env.mono (by have := Nat.mul_le_mul_left K (cntB_le L n); omega)
theorem Dr.cnt (_h : Dr w W g A bs cap m K n X R L W9) : m + K * cntB L n ≤ m + K * n := by have := Nat.mul_le_mul_left K (cntB_le L n); omega
theorem Dr.owns {B : Nat} {e : TypeId} {sz n' : Nat} {v : Value} {xs : List Value} (h : Dr w W g A bs cap m K n X R L W9) (ho : W.ownsRow B e sz v n' xs) (hX : ∀ b, v.ownBlock = some b → b ∉ X) : W9.ownsRow B e sz v n' xs := by
  obtain ⟨h1, h2 | ⟨b, c, cur, hv, hB, hh, hr⟩⟩ := ho
  · exact ⟨h1, .inl h2⟩
  · refine ⟨h1, .inr ⟨b, c, cur, hv, hB, ?_, hr⟩⟩
    have hb : b < W.heap.size := by
      rcases Nat.lt_or_ge b W.heap.size with h3 | h3
      · exact h3
      · rw [Array.getElem?_eq_none h3] at hh; cases hh
    rw [h.keep b hb (hX b (by rw [hv]; rfl))]
    exact hh
/-- A row that reads, away from the blocks of X. -/
theorem Dr.reads {k' n' : Nat} {A' : Option Addr} {cs : List Value} (h : Dr w W g A bs cap m K n X R L W9) (hr : SlcR W W.heap.size k' A' n' cs) (hX : 0 < n' → ∀ b, A'.map (·.block) = some b → b ∉ X) : SlcR W9 W9.heap.size k' A' n' cs :=
  ⟨hr.len, hr.big, fun hn => by
    obtain ⟨b, off, e, hb, hc⟩ := hr.at_ hn
    refine ⟨b, off, e, Nat.lt_of_lt_of_le hb h.size, fun j u hu => ?_⟩
    rw [World.cell?_of_block (a := ⟨b, off + j, none⟩) (h.keep b hb (hX hn b (by rw [e]; rfl)))]
    exact hc j u hu⟩
end
/-- What lay below W's end lies as it lay, but for the cursor's block. -/
theorem drawn_gr {w W W2 wx : World} {g : Nat} {A : Option Addr} {bs : List UInt8} {cap m m' K n : Nat} {X : List Nat} {R : List Room} {L : Nat → Bool} (G : W.grownBy W2 (some g)) (h : Dr w W2 g A bs cap m K n X R L wx) (hX : ∀ k ∈ X, k ≠ g → W.heap.size ≤ k) (E0 : Env w W2 g A bs cap m') : W.grownBy wx (some g) :=
  ⟨h.env.gr.os.trans (E0.gr.os.symm.trans G.os), h.env.gr.tape.trans (E0.gr.tape.symm.trans G.tape), h.env.gr.output.trans (E0.gr.output.symm.trans G.output), Nat.le_trans G.size h.size,
   fun k hk hne => (h.keep k (Nat.lt_of_lt_of_le hk G.size) (fun hm => by have := hX k hm (by intro e; subst e; exact hne rfl); omega)).trans (G.block k hk hne)⟩
theorem grown_own {W W' W'' : World} {g b : Nat} (G : W.grownBy W' (some g)) (hg : W'.grownBy W'' (some b)) (hb : W.heap.size ≤ b) : W.grownBy W'' (some g) :=
  ⟨hg.os.trans G.os, hg.tape.trans G.tape, hg.output.trans G.output, Nat.le_trans G.size hg.size, fun k hk hne => (hg.block k (Nat.lt_of_lt_of_le hk G.size) (by intro e; injection e; omega)).trans (G.block k hk hne)⟩
/-- A row that came in stands apart from the cursor and from what was made since. -/
theorem rowsX {W : World} {k n g : Nat} {A : Option Addr} {cs : List Value} {X : List Nat} (hr : SlcR W W.heap.size k A n cs) (hne : ∀ b, A.map (·.block) = some b → b ≠ g) (hX : ∀ k ∈ X, k ≠ g → W.heap.size ≤ k) : 0 < n → ∀ b, A.map (·.block) = some b → b ∉ X := fun hn b hb hm => by
  obtain ⟨b', off, e, hb', _⟩ := hr.at_ hn
  rw [e] at hb
  injection hb with hb
  simp only at hb
  subst hb
  have := hX _ hm (hne _ (by rw [e]; rfl))
  omega
theorem SlcR.gr {W W' : World} {k n g : Nat} {A : Option Addr} {cs : List Value} (hr : SlcR W W.heap.size k A n cs) (hne : ∀ b, A.map (·.block) = some b → b ≠ g) (hg : W.grownBy W' (some g)) : SlcR W' W'.heap.size k A n cs :=
  ⟨hr.len, hr.big, fun hn => by
    obtain ⟨b, off, e, hb, hc⟩ := hr.at_ hn
    refine ⟨b, off, e, Nat.lt_of_lt_of_le hb hg.size, fun j u hu => ?_⟩
    rw [World.cell?_of_block (a := ⟨b, off + j, none⟩) (hg.block b hb (by intro e'; injection e' with e'; exact hne b (by rw [e]; rfl) e'))]
    exact hc j u hu⟩
theorem len2 {l : List Value} (h : l.length = 2) : ∃ a b, l = [a, b] := by match l, h with | [a, b], _ => exact ⟨a, b, rfl⟩
theorem len3 {l : List Value} (h : l.length = 3) : ∃ a b c, l = [a, b, c] := by match l, h with | [a, b, c], _ => exact ⟨a, b, c, rfl⟩
theorem len4 {l : List Value} (h : l.length = 4) : ∃ a b c d, l = [a, b, c, d] := by match l, h with | [a, b, c, d], _ => exact ⟨a, b, c, d, rfl⟩
theorem len5 {l : List Value} (h : l.length = 5) : ∃ a b c d e, l = [a, b, c, d, e] := by match l, h with | [a, b, c, d, e], _ => exact ⟨a, b, c, d, e, rfl⟩
/-- One of a list that lies in a block. -/
theorem among_lies {w W : World} {g : Nat} {A : Option Addr} {bs : List UInt8} {cap m : Nat} (E : Env w W g A bs cap m) (b n : Nat) (l : List Int) (hl : l.length = n) (hL : Lies W b 3 (encIs l)) (hne : b ≠ g) (h0 : 0 < n) (hn : n ≤ 100000) (hm : m ≤ 900000000) :
    Calls Try.prog 90 #[.pointer (some ⟨g, 0, none⟩), .slice (some ⟨b, 0, none⟩) n n] W fun e w' => ∃ x : Int, e = .returned (.int .i64 x) ∧ Env w w' g A bs cap (m + 2) ∧ W.grownBy w' (some g) := by
  subst hl
  have hi : IntsR W W.heap.size (some ⟨b, 0, none⟩) l := hL.reads (encIs_len l) (by omega)
  exact (among_any g A _ cap _ m bs l _ h0 hn hm E.cur E.rd hi (by intro e; injection e with e; exact hne e)).mono fun _ _ ⟨x, he, _, hc, hg⟩ => ⟨x, he, E.next hc hg, hg⟩
theorem l1Most_any (a b : Int) (w : World) : Calls Try.prog 91 #[.int .i64 a, .int .i64 b] w fun e w' => (∃ z : Int, e = .returned (.int .i64 z)) ∧ Below w.heap.size w w' := by
  go_enter Try.func91, Try.ntmps91
  go_wp2
  all_goals (go_ret; exact ⟨⟨_, rfl⟩, Below.refl _ _⟩)
end Go.Proofs.Ytdiojhjkcholiaa

/- A region whose order is drawn and whose last operation comes behind all others (a store): by one fact on each operation. -/
namespace Go.Proofs.Ytdiojhjkcholiaa
open Go.RowKit

section
variable {P : Program} {ops : Array Oper} {Q : Exit → Act → World → Prop}

/-- The walk: a fact on each operation's value, and the last operation from all the facts. -/
def wpFactsT (P : Program) (ops : Array Oper) (Q : Exit → Act → World → Prop) (C : World → Prop) (T : World → World → Prop) (fr : (Nat → Value) → Act) : Nat → List Oper → List (Value → World → Prop) → Prop
  | _, [], _ => False
  | k, o :: l, Rs => (l = [] ∧ ∀ vs w, C w → (∀ (j : Nat) (R : Value → World → Prop), Rs[j]? = some R → R (vs j) w) → ∀ K : Act → World → Prop, (∀ a' w', Q .normal a' w' → K a' w') →
      if Region.wanted o (yielded ops (fr vs).tmps) = true then o.wp P (fr vs) w K Q else K ((fr vs).put o.dst undef) w) ∨
    (∃ R : Value → World → Prop, (∀ v w w', R v w → T w w' → R v w') ∧
    (∀ vs w, C w → (∀ (j : Nat) (R' : Value → World → Prop), ahead .any ops ops.size k j = true → Rs[j]? = some R' → R' (vs j) w) → ∀ K : Act → World → Prop, (∀ a' v w', a' = (fr vs).put o.dst v → R v w' → C w' → T w w' → K a' w') →
      if Region.wanted o (yielded ops (fr vs).tmps) = true then o.wp P (fr vs) w K Q else K ((fr vs).put o.dst undef) w) ∧
    wpFactsT P ops Q C T fr (k + 1) l (Rs ++ [R]))

theorem wpFactsT_all {C : World → Prop} {T : World → World → Prop} {fr : (Nat → Value) → Act} : ∀ (l : List Oper) (k : Nat) (Rs : List (Value → World → Prop)), (∀ i, l[i]? = ops[k + i]?) → Rs.length = k →
    (∀ (j : Nat) (R : Value → World → Prop), Rs[j]? = some R → ∀ v w w', R v w → T w w' → R v w') →
    (∀ (j : Nat) (o : Oper) (R : Value → World → Prop), j < k → ops[j]? = some o → Rs[j]? = some R → ∀ vs w, C w → (∀ (j' : Nat) (R' : Value → World → Prop), ahead .any ops ops.size j j' = true → j' < j → Rs[j']? = some R' → R' (vs j') w) → ∀ K : Act → World → Prop, (∀ a' v w', a' = (fr vs).put o.dst v → R v w' → C w' → T w w' → K a' w') →
      if Region.wanted o (yielded ops (fr vs).tmps) = true then o.wp P (fr vs) w K Q else K ((fr vs).put o.dst undef) w) →
    wpFactsT P ops Q C T fr k l Rs →
    ∃ Rs' : List (Value → World → Prop), Rs'.length + 1 = ops.size ∧ (∀ (j : Nat) (R : Value → World → Prop), Rs'[j]? = some R → ∀ v w w', R v w → T w w' → R v w') ∧
    (∀ (j : Nat) (o : Oper) (R : Value → World → Prop), ops[j]? = some o → Rs'[j]? = some R → ∀ vs w, C w → (∀ (j' : Nat) (R' : Value → World → Prop), ahead .any ops ops.size j j' = true → j' < j → Rs'[j']? = some R' → R' (vs j') w) → ∀ K : Act → World → Prop, (∀ a' v w', a' = (fr vs).put o.dst v → R v w' → C w' → T w w' → K a' w') →
      if Region.wanted o (yielded ops (fr vs).tmps) = true then o.wp P (fr vs) w K Q else K ((fr vs).put o.dst undef) w) ∧
    (∀ o, ops[Rs'.length]? = some o → ∀ vs w, C w → (∀ (j : Nat) (R : Value → World → Prop), Rs'[j]? = some R → R (vs j) w) → ∀ K : Act → World → Prop, (∀ a' w', Q .normal a' w' → K a' w') →
      if Region.wanted o (yielded ops (fr vs).tmps) = true then o.wp P (fr vs) w K Q else K ((fr vs).put o.dst undef) w)
  | [], k, Rs, _, _, _, _, h => h.elim
  | o :: l, k, Rs, hl, hlen, hst, hop, h => by
    have ho : ops[k]? = some o := by simpa using (hl 0).symm
    rcases h with ⟨rfl, hlast⟩ | ⟨R, hRs, hRo, hrest⟩
    · have h1 : ops[k + 1]? = none := by have := hl 1; simpa using this.symm
      have hk : k < ops.size := (Array.getElem?_eq_some_iff.1 ho).1
      have hk1 : ¬ k + 1 < ops.size := fun hh => by rw [Array.getElem?_eq_getElem hh] at h1; cases h1
      refine ⟨Rs, by omega, hst, fun j o R ho hR => hop j o R ?_ ho hR, fun o' ho' => ?_⟩
      · rw [← hlen]; exact (List.getElem?_eq_some_iff.1 hR).1
      · rw [hlen, ho] at ho'; cases ho'; exact hlast
    · have hold : ∀ j, j < k → (Rs ++ [R])[j]? = Rs[j]? := fun j hj => List.getElem?_append_left (by omega)
      have hnew : (Rs ++ [R])[k]? = some R := by rw [List.getElem?_append_right (by omega), hlen]; simp
      exact wpFactsT_all l (k + 1) (Rs ++ [R]) (fun i => by have := hl (i + 1); simpa [Nat.add_assoc, Nat.add_comm 1 i] using this) (by simp [hlen])
        (fun j R' hR' => by
          rcases Nat.lt_trichotomy j k with hj | hj | hj
          · rw [hold j hj] at hR'; exact hst j R' hR'
          · subst hj; rw [hnew] at hR'; cases hR'; exact hRs
          · rw [List.getElem?_eq_none (by simp [hlen]; omega)] at hR'; cases hR')
        (fun j o' R' hj ho' hR' vs w hC hB K hK => by
          rcases Nat.lt_or_ge j k with hjk | hjk
          · rw [hold j hjk] at hR'
            exact hop j o' R' hjk ho' hR' vs w hC (fun j' R'' ha hlt h'' => hB j' R'' ha hlt (by rw [hold j' (by omega)]; exact h'')) K hK
          · obtain rfl : j = k := by omega
            rw [ho] at ho'; cases ho'
            rw [hnew] at hR'; cases hR'
            refine hRo vs w hC (fun j' R'' ha h'' => ?_) K hK
            have hlt : j' < Rs.length := (List.getElem?_eq_some_iff.1 h'').1
            exact hB j' R'' ha (by omega) (by rw [hold j' (by omega)]; exact h''))
        hrest

def allAhead (ops : Array Oper) (n : Nat) : Bool := (List.range n).all fun j => ahead .any ops ops.size n j

theorem wpAny_factsT {C : World → Prop} {T : World → World → Prop} {a₀ : Act} (hap : dstsApart ops.toList = true) (hdn : edgesDown .any ops = true) (Rs : List (Value → World → Prop)) (hlen : Rs.length + 1 = ops.size) (hah : allAhead ops Rs.length = true)
    (hst : ∀ (j : Nat) (R : Value → World → Prop), Rs[j]? = some R → ∀ v w w', R v w → T w w' → R v w')
    (hop : ∀ (j : Nat) (o : Oper) (R : Value → World → Prop), ops[j]? = some o → Rs[j]? = some R → ∀ vs w, C w → (∀ (j' : Nat) (R' : Value → World → Prop), ahead .any ops ops.size j j' = true → j' < j → Rs[j']? = some R' → R' (vs j') w) → ∀ K : Act → World → Prop, (∀ a' v w', a' = (fillOps vs ops.toList 0 a₀).put o.dst v → R v w' → C w' → T w w' → K a' w') →
      if Region.wanted o (yielded ops (fillOps vs ops.toList 0 a₀).tmps) = true then o.wp P (fillOps vs ops.toList 0 a₀) w K Q else K ((fillOps vs ops.toList 0 a₀).put o.dst undef) w)
    (hlast : ∀ o, ops[Rs.length]? = some o → ∀ vs w, C w → (∀ (j : Nat) (R : Value → World → Prop), Rs[j]? = some R → R (vs j) w) → ∀ K : Act → World → Prop, (∀ a' w', Q .normal a' w' → K a' w') →
      if Region.wanted o (yielded ops (fillOps vs ops.toList 0 a₀).tmps) = true then o.wp P (fillOps vs ops.toList 0 a₀) w K Q else K ((fillOps vs ops.toList 0 a₀).put o.dst undef) w) :
    ∀ (fuel : Nat) (listed : Array Bool) (vs : Nat → Value) (w : World), listed.size = ops.size → unlisted ops.size listed ≤ fuel → Closed .any ops listed → listed.getD Rs.length false = false → C w → (∀ (j : Nat) (R : Value → World → Prop), listed.getD j false = true → Rs[j]? = some R → R (vs j) w) →
      wpAny P .any ops Q fuel listed (fillOps vs ops.toList 0 a₀) w := by
  intro fuel
  induction fuel with
  | zero =>
    intro listed vs w hs hu hcl hn hC hR
    have : unlisted ops.size (listed.setIfInBounds Rs.length true) < unlisted ops.size listed := unlisted_set (by omega) hs hn
    omega
  | succ fuel ih =>
    intro listed vs w hs hu hcl hn hC hR
    refine ⟨fun hr => ?_, fun i hi => ?_⟩
    · have := listed_ready hdn hs hr Rs.length (by omega)
      rw [hn] at this; cases this
    obtain ⟨h0, o, ho, hall⟩ := mem_ready.1 hi
    have hisz : i < ops.size := (Array.getElem?_eq_some_iff.1 ho).1
    have hil : i < listed.size := by omega
    have h0' : listed.getD i false = false := by simp only [Array.getD, hil, ↓reduceDIte] at h0 ⊢; exact h0
    by_cases hin : i = Rs.length
    · have hall' : ∀ j, j < Rs.length → listed.getD j false = true := fun j hj => by
        refine ahead_listed hcl ops.size i j (fun o' ho' => by rw [ho] at ho'; cases ho'; exact hall) ?_
        rw [hin]; exact List.all_eq_true.1 hah j (List.mem_range.2 hj)
      have hstep := hlast o (by rw [← hin]; exact ho) vs w hC (fun j R hj => hR j R (hall' j (List.getElem?_eq_some_iff.1 hj).1) hj)
        (wpAny P .any ops Q fuel (listed.setIfInBounds i true)) (fun a' w' hq => by
          have hfull : ∀ j, j ∉ Region.ready .any ops (listed.setIfInBounds i true) := fun j hj => by
            obtain ⟨g0, o', ho', _⟩ := mem_ready.1 hj
            have hjs : j < ops.size := (Array.getElem?_eq_some_iff.1 ho').1
            have hjl : j < (listed.setIfInBounds i true).size := by simp; omega
            have g0' : (listed.setIfInBounds i true).getD j false = false := by simp only [Array.getD, hjl, ↓reduceDIte] at g0 ⊢; exact g0
            by_cases hji : j = i
            · subst hji; simp [hil] at g0'
            · rw [getD_set_ne false (Ne.symm hji), hall' j (by omega)] at g0'; cases g0'
          have hnil : Region.ready .any ops (listed.setIfInBounds i true) = [] := List.eq_nil_iff_forall_not_mem.2 hfull
          cases fuel with
          | zero => exact ⟨hnil, hq⟩
          | succ fuel => exact ⟨fun _ => hq, fun j hj => absurd hj (hfull j)⟩)
      unfold wpOp
      simp only [ho]
      split
      · rename_i hw; rw [if_pos hw] at hstep; exact .inl hstep
      · rename_i hw; rw [if_neg hw] at hstep; exact hstep
    obtain ⟨R, hRi⟩ : ∃ R, Rs[i]? = some R := ⟨Rs[i]'(by omega), List.getElem?_eq_getElem (by omega)⟩
    have hstep := hop i o R ho hRi vs w hC (fun j' R' ha _ hR' => hR j' R' (ahead_listed hcl ops.size i j' (fun o' ho' => by rw [ho] at ho'; cases ho'; exact hall) ha) hR')
      (wpAny P .any ops Q fuel (listed.setIfInBounds i true)) (fun a' v w' ha hRv hC' hT => by
        rw [ha, fillOps_upd ops.toList 0 a₀ vs i o v hap (by simpa using ho), Nat.zero_add]
        refine ih _ _ _ (by simpa using hs) ?_ ?_ ?_ hC' ?_
        · have := unlisted_set hisz hs h0'; omega
        · intro j oj hoj hj e he hb
          by_cases hji : j = i
          · subst hji; rw [ho] at hoj; cases hoj; exact getD_set_true (hall e he hb)
          · rw [getD_set_ne false (Ne.symm hji)] at hj; exact getD_set_true (hcl j oj hoj hj e he hb)
        · rw [getD_set_ne false (fun h => hin h)]; exact hn
        · intro j R' hj hR'
          by_cases hji : j = i
          · subst hji; rw [hRi] at hR'; cases hR'; simpa [upd] using hRv
          · rw [getD_set_ne false (Ne.symm hji)] at hj
            have := hst j R' hR' _ _ _ (hR j R' hj hR') hT
            simpa [upd, hji] using this)
    unfold wpOp
    simp only [ho]
    split
    · rename_i hw; rw [if_pos hw] at hstep; exact .inl hstep
    · rename_i hw; rw [if_neg hw] at hstep; exact hstep

/-- The region. -/
theorem wp_region_factsT {id : Nat} {a : Act} {w : World} {l : List Oper} (C : World → Prop) (T : World → World → Prop) (hm : P.follows .mixedOrders = true) (hap : dstsApart l = true) (hdn : edgesDown .any l.toArray = true) (hah : allAhead l.toArray (l.length - 1) = true)
    (hC : C w.drew) (h : wpFactsT P l.toArray Q C T (fun vs => fillOps vs l 0 a) 0 l []) : (Code.region id l.toArray true).wp P Q a w := by
  refine wp_region_any hm ?_
  obtain ⟨Rs, h1, h2, h3, h4⟩ := wpFactsT_all (ops := l.toArray) l 0 [] (by simp) rfl (by simp) (by simp) h
  obtain ⟨vs, hvs⟩ : ∃ vs : Nat → Value, ∀ i o t, l[i]? = some o → o.dst = some t → vs (0 + i) = a.tmps.getD t undef :=
    ⟨fun i => match (l[i]?).bind (·.dst) with | some t => a.tmps.getD t undef | none => undef, fun i o t hi ht => by simp [hi, ht]⟩
  have hl1 : Rs.length = l.length - 1 := by have h1' : Rs.length + 1 = l.length := by simpa using h1
                                            omega
  have := wpAny_factsT (P := P) (Q := Q) (ops := l.toArray) (C := C) (T := T) (a₀ := a) hap hdn Rs h1 (by rw [hl1]; exact hah) h2 h3 h4 l.toArray.size (Array.replicate l.toArray.size false) vs w.drew (by simp)
    (Nat.le_trans (List.length_filter_le _ _) (by simp)) (fun j o hj hl => by simp [Array.getD] at hl) (by simp [Array.getD]) hC (fun j R hl => by simp [Array.getD] at hl)
  rwa [fillOps_self vs _ 0 a (by simpa using hvs)] at this

theorem wpFactsT_last {C : World → Prop} {T : World → World → Prop} {fr : (Nat → Value) → Act} {k : Nat} {o : Oper} {Rs : List (Value → World → Prop)} (h : ∀ vs w, C w → (∀ (j : Nat) (R : Value → World → Prop), Rs[j]? = some R → R (vs j) w) → ∀ K : Act → World → Prop, (∀ a' w', Q .normal a' w' → K a' w') →
      if Region.wanted o (yielded ops (fr vs).tmps) = true then o.wp P (fr vs) w K Q else K ((fr vs).put o.dst undef) w) : wpFactsT P ops Q C T fr k [o] Rs := .inl ⟨rfl, h⟩
/-- An operation with one value. -/
theorem wpFactsT_val {C : World → Prop} {T : World → World → Prop} {fr : (Nat → Value) → Act} {k : Nat} {o : Oper} {l : List Oper} {Rs : List (Value → World → Prop)} (V : Value)
    (h1 : ∀ vs w, C w → (∀ (j : Nat) (R' : Value → World → Prop), ahead .any ops ops.size k j = true → Rs[j]? = some R' → R' (vs j) w) → ∀ K : Act → World → Prop, (∀ a' w', a' = (fr vs).put o.dst V → C w' → T w w' → K a' w') →
      if Region.wanted o (yielded ops (fr vs).tmps) = true then o.wp P (fr vs) w K Q else K ((fr vs).put o.dst undef) w)
    (h2 : wpFactsT P ops Q C T fr (k + 1) l (Rs ++ [fun v _ => v = V])) : wpFactsT P ops Q C T fr k (o :: l) Rs :=
  .inr ⟨fun v _ => v = V, fun _ _ _ h _ => h, fun vs w hC hB K hK => h1 vs w hC hB K fun a' w' ha hC' hT => hK a' V w' ha rfl hC' hT, h2⟩
/-- An operation whose value has a property. -/
theorem wpFactsT_some {C : World → Prop} {T : World → World → Prop} {fr : (Nat → Value) → Act} {k : Nat} {o : Oper} {l : List Oper} {Rs : List (Value → World → Prop)} (R : Value → World → Prop) (hR : ∀ v w w', R v w → T w w' → R v w')
    (h1 : ∀ vs w, C w → (∀ (j : Nat) (R' : Value → World → Prop), ahead .any ops ops.size k j = true → Rs[j]? = some R' → R' (vs j) w) → ∀ K : Act → World → Prop, (∀ a' v w', a' = (fr vs).put o.dst v → R v w' → C w' → T w w' → K a' w') →
      if Region.wanted o (yielded ops (fr vs).tmps) = true then o.wp P (fr vs) w K Q else K ((fr vs).put o.dst undef) w)
    (h2 : wpFactsT P ops Q C T fr (k + 1) l (Rs ++ [R])) : wpFactsT P ops Q C T fr k (o :: l) Rs :=
  .inr ⟨R, hR, h1, h2⟩
end
end Go.Proofs.Ytdiojhjkcholiaa

/- The reference's copy of an office. (Printed by gen_specown.py) -/
namespace Go.Proofs.Ytdiojhjkcholiaa
open Go.RowKit

/-- 'append([]T{}, xs...)' as one operation of a drawn region: no older block turns. -/
theorem stepCat {P : Program} {ops : Array Oper} {tm : Array Value} {o : Oper} {a : Act} {w : World} {K : Act → World → Prop} {Q : Exit → Act → World → Prop} {E : Prop}
    (hg : o.guard = none) (s x : Operand) (t : TypeId) (ho : o.op = .call { callee := .builtin .append, args := #[s, x], argTypes := #[t, t] })
    (e : TypeId) (z : Value) (k bytes : Nat) (ht : P.underlying t = some (.slice e)) (hinfo : (P.info? e).map (fun i => (i.zero, i.size, i.bytes)) = some (some z, k, bytes)) (hzs : z.cells.size = k) (hsz : 0 < k) (hby : bytes ≤ 1000)
    (B g : Nat) (hs : a.eval s = .slice (some ⟨g, 0, none⟩) 0 0) (hL : Lies w g e []) (hB : B ≤ g)
    (S : Nat) (A : Option Addr) (m c : Nat) (cs : List Value) (hx : a.eval x = .slice A m c) (hr : SlcR w S k A m cs) (h1 : ∀ u ∈ cs, u.oneCell' = true) (hm : m ≤ 1000000)
    (h : ∀ v' w', w'.ownsRow B e k v' m cs → Below w.heap.size w w' → K (a.put o.dst v') w') : if Region.wanted o (yielded ops tm) = true then o.wp P a w K Q else E := by
  have hw : ∀ tm : Array Value, Region.wanted o (yielded ops tm) = true := fun tm => by simp [Region.wanted, hg]
  rw [if_pos (hw _)]
  obtain ⟨i, hi, hz, hs', hb⟩ := info_parts hinfo
  have hbytes : (0 + m) * bytes ≤ 140737488355328 := by have := Nat.mul_le_mul (show 0 + m ≤ 1000000 by omega) hby; omega
  have hlt := hL.lt
  rcases Nat.eq_zero_or_pos m with h0 | h0
  · subst h0
    have hc0 : cs = [] := List.eq_nil_of_length_eq_zero (by simpa using hr.len)
    subst hc0
    have hown : w.ownsRow B e k (.slice (some ⟨g, 0, none⟩) 0 0) 0 [] := owns_empty hL hB
    have hrun : (Builtin.append_ #[t, t] o.type #[.slice (some ⟨g, 0, none⟩) 0 0, .slice A 0 c]).run P w = .ok (.slice (some ⟨g, 0, none⟩) 0 0) w := by
      rcases A with _ | ad
      · exact run_cat_nil w B t o.type e i k ht hi _ 0 [] hown c
      · simp [Builtin.append_, run_underlying ht, sizeOf, typeInfo, hi, Builtin.lenOf, Builtin.firstCells, loadCells, loadCellsFrom, storeCells]
    unfold Oper.wp execOp
    simp only [ho, resolve, invoke, builtin, Sem.run_bind, Sem.run_pure, Result.andThen_ok, List.map_toArray, List.map_cons, List.map_nil, hs, hx, hrun]
    exact h _ _ hown (Below.refl _ _)
  · obtain ⟨b, off, rfl, hlt', hcell⟩ := hr.at_ h0
    have key := step_append_grows (P := P) (ops := ops) (a := a) (w := w) (K := K) (Q := Q) (E := E) hg s x t ho e i z k bytes ht hi hz hs' hb hzs hsz (some ⟨g, 0, none⟩) 0 0 [] hs (by simp) (by simp) (by simp) ⟨b, off, none⟩ m c cs hx hr.len (fun j u hu => by rw [addr_add]; exact hcell j u hu) h1 (by omega) (by unfold maxLen; omega) hbytes (fun v' w' h2 h3 => by
      rw [Nat.zero_add, List.nil_append] at h2
      exact h v' w' (ownsRow_lower h2 (by omega)) ((Below.refl _ _).grown h3 (Nat.le_refl _) (fun j hj => by cases hj)))
    rw [if_pos (hw _)] at key
    exact key

/-- An office like x that owns its rows. -/
def GivesOff (w : World) (y : Oc) (e : Ending) (w' : World) : Prop :=
  ∃ TA tc OA oc, e = .returned (y.at TA tc OA oc).val ∧ w'.ownsRow w.heap.size 74 2 (.slice TA y.t.length tc) y.t.length (y.t.flatMap Tray.enc) ∧ w'.ownsRow w.heap.size 100 3 (.slice OA y.o.length oc) y.o.length (y.o.flatMap Outing.enc) ∧ Below w.heap.size w w'
theorem ne_owt : 74 ≠ 25 := by decide
theorem ne_owo : 100 ≠ 25 := by decide

set_option maxRecDepth 100000 in
set_option maxHeartbeats 4000000 in
theorem l32Own_any (x : Off) (w : World) (h : OffR w w.heap.size x) (tl : x.t.length ≤ 1000000) (ol : x.o.length ≤ 1000000) :
    Calls Try.prog 54 #[x.val] w (GivesOff w x.c) := by
  have L1 := (Lies.new w 25 #[.slice x.TA x.t.length x.tc, .slice x.OA x.o.length x.oc, .int .i64 x.got, .int .i64 x.sold, .int .i64 x.missed]).alloc (.cells #[.slice none 0 0, .slice none 0 0, .int .i64 0, .int .i64 0, .int .i64 0] 25)
  have L2 := Lies.new1 w (.cells #[.slice x.TA x.t.length x.tc, .slice x.OA x.o.length x.oc, .int .i64 x.got, .int .i64 x.sold, .int .i64 x.missed] 25) 25 #[.slice none 0 0, .slice none 0 0, .int .i64 0, .int .i64 0, .int .i64 0]
  have b1 := (Below.refl w.heap.size w).alloc (Nat.le_refl _) (.cells #[.slice x.TA x.t.length x.tc, .slice x.OA x.o.length x.oc, .int .i64 x.got, .int .i64 x.sold, .int .i64 x.missed] 25)
  have b2 := b1.alloc b1.size (.cells #[.slice none 0 0, .slice none 0 0, .int .i64 0, .int .i64 0, .int .i64 0] 25)
  clear b1
  go_enter Try.func54, Try.ntmps54
  go_wp2_with fail
  generalize ((w.alloc (.cells #[.slice x.TA x.t.length x.tc, .slice x.OA x.o.length x.oc, .int .i64 x.got, .int .i64 x.sold, .int .i64 x.missed] 25)).alloc (.cells #[.slice none 0 0, .slice none 0 0, .int .i64 0, .int .i64 0, .int .i64 0] 25)) = W at L1 L2 b2 ⊢
  have hR := h.up b2 (Nat.le_refl _)
  have hT := hR.ts
  have hO := hR.os
  have l1 := L1.lt
  have l2 := L2.lt
  clear h hR
  refine wp_region_factsT (fun W9 => Below W.heap.size W W9) (fun w1 w2 => Below w1.heap.size w1 w2) (by kernel_rfl) (by kernel_rfl) (by kernel_rfl) (by kernel_rfl) (Below.refl _ _).drew ?_
  simp only [fillOps, Act.put, List.setIfInBounds_toArray, List.set_cons_zero, List.set_cons_succ, Nat.zero_add, Nat.reduceAdd]
  refine wpFactsT_some (fun v w9 => ∃ g, v = .slice (some ⟨g, 0, none⟩) 0 0 ∧ w.heap.size ≤ g ∧ Lies w9 g 74 []) (fun v w1 w2 hv hT' => by obtain ⟨g, e, hg, hl⟩ := hv; exact ⟨g, e, hg, hl.below hT' hl.lt⟩) (fun vs w9 hC9 hB K9 hK9 => ?_) ?_
  · go_simp
    exact hK9 _ _ _ rfl ⟨_, rfl, Nat.le_trans b2.size hC9.size, Lies.new w9 74 #[]⟩ (hC9.alloc hC9.size _) ((Below.refl _ _).alloc (Nat.le_refl _) _)
  refine wpFactsT_val (.pointer (some ⟨w.heap.size, 0, none⟩)) (fun vs w9 hC9 hB K9 hK9 => ?_) ?_
  · go_simp
    exact hK9 _ _ rfl hC9 (Below.refl _ _)
  refine wpFactsT_val (.slice x.TA x.t.length x.tc) (fun vs w9 hC9 hB K9 hK9 => ?_) ?_
  · have hd := hB 1 _ (by kernel_rfl) rfl
    simp only [hd] at hK9 ⊢
    have q1 : w9.cell? ⟨w.heap.size, 0, none⟩ = some (.slice x.TA x.t.length x.tc) := (L1.below hC9 L1.lt).cell 0
    go_simp
    exact hK9 _ _ rfl hC9 (Below.refl _ _)
  refine wpFactsT_some (fun v w9 => ∃ A c, v = .slice A x.t.length c ∧ w9.ownsRow w.heap.size 74 2 (.slice A x.t.length c) x.t.length (x.t.flatMap Tray.enc)) (fun v w1 w2 hv hT' => by obtain ⟨A, c, e, ho⟩ := hv; exact ⟨A, c, e, ownsRow_below ho hT'⟩) (fun vs w9 hC9 hB K9 hK9 => ?_) ?_
  · obtain ⟨g, e0, hg, hl⟩ := hB 0 _ (by kernel_rfl) rfl
    have hd := hB 2 _ (by kernel_rfl) rfl
    simp only [e0, hd] at hK9 ⊢
    refine stepCat rfl (.tmp 3) (.tmp 5) 22 rfl 74 _ 2 16 Try.underlying22 infoTray rfl (by omega) (by omega) w.heap.size g (by rfl) hl hg W.heap.size x.TA x.t.length x.tc (x.t.flatMap Tray.enc) (by rfl) (SlcR.below hT hC9) tray_cells tl ?_
    intro v' w' ho hb
    obtain ⟨A', c', rfl⟩ := ownsRow_slice ho
    exact hK9 _ _ _ rfl ⟨A', c', rfl, ho⟩ (hC9.trans (hb.mono hC9.size)) hb
  refine wpFactsT_some (fun v w9 => ∃ g, v = .slice (some ⟨g, 0, none⟩) 0 0 ∧ w.heap.size ≤ g ∧ Lies w9 g 100 []) (fun v w1 w2 hv hT' => by obtain ⟨g, e, hg, hl⟩ := hv; exact ⟨g, e, hg, hl.below hT' hl.lt⟩) (fun vs w9 hC9 hB K9 hK9 => ?_) ?_
  · go_simp
    exact hK9 _ _ _ rfl ⟨_, rfl, Nat.le_trans b2.size hC9.size, Lies.new w9 100 #[]⟩ (hC9.alloc hC9.size _) ((Below.refl _ _).alloc (Nat.le_refl _) _)
  refine wpFactsT_val (.pointer (some ⟨w.heap.size, 1, none⟩)) (fun vs w9 hC9 hB K9 hK9 => ?_) ?_
  · go_simp
    exact hK9 _ _ rfl hC9 (Below.refl _ _)
  refine wpFactsT_val (.slice x.OA x.o.length x.oc) (fun vs w9 hC9 hB K9 hK9 => ?_) ?_
  · have hd := hB 5 _ (by kernel_rfl) rfl
    simp only [hd] at hK9 ⊢
    have q1 : w9.cell? ⟨w.heap.size, 1, none⟩ = some (.slice x.OA x.o.length x.oc) := (L1.below hC9 L1.lt).cell 1
    go_simp
    exact hK9 _ _ rfl hC9 (Below.refl _ _)
  refine wpFactsT_some (fun v w9 => ∃ A c, v = .slice A x.o.length c ∧ w9.ownsRow w.heap.size 100 3 (.slice A x.o.length c) x.o.length (x.o.flatMap Outing.enc)) (fun v w1 w2 hv hT' => by obtain ⟨A, c, e, ho⟩ := hv; exact ⟨A, c, e, ownsRow_below ho hT'⟩) (fun vs w9 hC9 hB K9 hK9 => ?_) ?_
  · obtain ⟨g, e0, hg, hl⟩ := hB 4 _ (by kernel_rfl) rfl
    have hd := hB 6 _ (by kernel_rfl) rfl
    simp only [e0, hd] at hK9 ⊢
    refine stepCat rfl (.tmp 7) (.tmp 9) 23 rfl 100 _ 3 24 Try.underlying23 infoOuting rfl (by omega) (by omega) w.heap.size g (by rfl) hl hg W.heap.size x.OA x.o.length x.oc (x.o.flatMap Outing.enc) (by rfl) (SlcR.below hO hC9) outing_cells ol ?_
    intro v' w' ho hb
    obtain ⟨A', c', rfl⟩ := ownsRow_slice ho
    exact hK9 _ _ _ rfl ⟨A', c', rfl, ho⟩ (hC9.trans (hb.mono hC9.size)) hb
  refine wpFactsT_val (.pointer (some ⟨w.heap.size, 2, none⟩)) (fun vs w9 hC9 hB K9 hK9 => ?_) ?_
  · go_simp
    exact hK9 _ _ rfl hC9 (Below.refl _ _)
  refine wpFactsT_val (.int .i64 x.got) (fun vs w9 hC9 hB K9 hK9 => ?_) ?_
  · have hd := hB 8 _ (by kernel_rfl) rfl
    simp only [hd] at hK9 ⊢
    have q1 : w9.cell? ⟨w.heap.size, 2, none⟩ = some (.int .i64 x.got) := (L1.below hC9 L1.lt).cell 2
    go_simp
    exact hK9 _ _ rfl hC9 (Below.refl _ _)
  refine wpFactsT_val (.pointer (some ⟨w.heap.size, 3, none⟩)) (fun vs w9 hC9 hB K9 hK9 => ?_) ?_
  · go_simp
    exact hK9 _ _ rfl hC9 (Below.refl _ _)
  refine wpFactsT_val (.int .i64 x.sold) (fun vs w9 hC9 hB K9 hK9 => ?_) ?_
  · have hd := hB 10 _ (by kernel_rfl) rfl
    simp only [hd] at hK9 ⊢
    have q1 : w9.cell? ⟨w.heap.size, 3, none⟩ = some (.int .i64 x.sold) := (L1.below hC9 L1.lt).cell 3
    go_simp
    exact hK9 _ _ rfl hC9 (Below.refl _ _)
  refine wpFactsT_val (.pointer (some ⟨w.heap.size, 4, none⟩)) (fun vs w9 hC9 hB K9 hK9 => ?_) ?_
  · go_simp
    exact hK9 _ _ rfl hC9 (Below.refl _ _)
  refine wpFactsT_val (.int .i64 x.missed) (fun vs w9 hC9 hB K9 hK9 => ?_) ?_
  · have hd := hB 12 _ (by kernel_rfl) rfl
    simp only [hd] at hK9 ⊢
    have q1 : w9.cell? ⟨w.heap.size, 4, none⟩ = some (.int .i64 x.missed) := (L1.below hC9 L1.lt).cell 4
    go_simp
    exact hK9 _ _ rfl hC9 (Below.refl _ _)
  refine wpFactsT_some (fun v w9 => ∃ A c A' c', v = .agg #[.slice A x.t.length c, .slice A' x.o.length c', .int .i64 x.got, .int .i64 x.sold, .int .i64 x.missed] ∧ w9.ownsRow w.heap.size 74 2 (.slice A x.t.length c) x.t.length (x.t.flatMap Tray.enc) ∧ w9.ownsRow w.heap.size 100 3 (.slice A' x.o.length c') x.o.length (x.o.flatMap Outing.enc))
    (fun v w1 w2 hv hT' => by obtain ⟨A, c, A', c', e, ho, hp⟩ := hv; exact ⟨A, c, A', c', e, ownsRow_below ho hT', ownsRow_below hp hT'⟩) (fun vs w9 hC9 hB K9 hK9 => ?_) ?_
  · obtain ⟨A, c, e3, ho⟩ := hB 3 _ (by kernel_rfl) rfl
    obtain ⟨A', c', e7, hp⟩ := hB 7 _ (by kernel_rfl) rfl
    have d9 := hB 9 _ (by kernel_rfl) rfl
    have d11 := hB 11 _ (by kernel_rfl) rfl
    have d13 := hB 13 _ (by kernel_rfl) rfl
    have ho := Lib.hid ho
    have hp := Lib.hid hp
    simp only [e3, e7, d9, d11, d13] at hK9 ⊢
    go_simp
    exact hK9 _ _ _ rfl ⟨A, c, A', c', rfl, ho.out, hp.out⟩ hC9 (Below.refl _ _)
  refine wpFactsT_last (fun vs w9 hC9 hB K9 hK9 => ?_)
  obtain ⟨A, c, A', c', e14, ho, hp⟩ := hB 14 _ rfl
  simp only [e14] at hK9 ⊢
  have L2z := L2.below hC9 L2.lt
  have z0 := L2z.cell 0
  have z1 := L2z.cell 1
  have z2 := L2z.cell 2
  have z3 := L2z.cell 3
  have z4 := L2z.cell 4
  have f0 := L2z.frozen 0
  have f1 := L2z.frozen 1
  have f2 := L2z.frozen 2
  have f3 := L2z.frozen 3
  have f4 := L2z.frozen 4
  simp only [List.getElem?_cons_zero, List.getElem?_cons_succ] at z0 z1 z2 z3 z4
  have hgr := (grown_set (g := w.heap.size + 1) (i := 4) (u := .int .i64 x.missed) (grown_set (g := w.heap.size + 1) (i := 3) (u := .int .i64 x.sold) (grown_set (g := w.heap.size + 1) (i := 2) (u := .int .i64 x.got) (grown_set (g := w.heap.size + 1) (i := 1) (u := .slice A' x.o.length c') (grown_set (g := w.heap.size + 1) (i := 0) (u := .slice A x.t.length c) (World.grownBy.refl w9 (some (w.heap.size + 1))))))))
  have bw := b2.trans (hC9.mono b2.size)
  have bz := bw.grown hgr bw.size (by rintro _ ⟨⟩; omega)
  have R8 := Lib.hid (ownsRow_keptG ho L2z ne_owt hgr)
  have R9 := Lib.hid (ownsRow_keptG hp L2z ne_owo hgr)
  clear hgr ho hp hB L2z
  go_simp
  refine hK9 _ _ ?_
  clear hK9 K9
  go_wp2
  refine bodyPost_ret (v := .agg #[.slice A x.t.length c, .slice A' x.o.length c', .int .i64 x.got, .int .i64 x.sold, .int .i64 x.missed]) (by simp [results, Try.results54, go_sem, *]) rfl ?_
  exact ⟨A, c, A', c', rfl, R8.out, R9.out, bz⟩
end Go.Proofs.Ytdiojhjkcholiaa

/- Marks on an office whose rows are a call's own, and their reading. -/
namespace Go.Proofs.Ytdiojhjkcholiaa
open Go.RowKit

theorem Lies.apart {w : World} {g g' : Nat} {t t' : TypeId} {cs cs' : List Value} (h : Lies w g t cs) (h' : Lies w g' t' cs') (hne : t ≠ t') : g ≠ g' := by
  intro e
  subst e
  unfold Lies at h h'
  rw [h] at h'
  injection h' with h'; injection h' with _ h2; exact hne h2
/-- A row of another type is written: this one stays. -/
theorem OwnS.two {w w' : World} {B B' : Nat} {t t' : TypeId} {k k' : Nat} {A A' : Option Addr} {n n' : Nat} {cs cs' : List Value} (h : OwnS w B t k A n cs) (h' : OwnS w B' t' k' A' n' cs') (hne : t ≠ t') (hg : w.grownBy w' (A'.map (·.block))) : OwnS w' B t k A n cs := by
  obtain ⟨hl, hn, h0 | ⟨g, rest, hA, hg1, hh⟩⟩ := h
  · exact ⟨hl, hn, .inl h0⟩
  · refine ⟨hl, hn, .inr ⟨g, rest, hA, hg1, hh.kept hg ?_⟩⟩
    obtain ⟨_, _, ⟨rfl, _⟩ | ⟨g', rest', rfl, _, hh'⟩⟩ := h'
    · simp
    · intro e
      have e : some g = some g' := e
      injection e with e
      exact hh.apart hh' hne e
theorem ne_to : 74 ≠ 100 := by decide
theorem ne_ot : 100 ≠ 74 := by decide

theorem OwnS.apartB {w : World} {B : Nat} {t t' : TypeId} {k : Nat} {A : Option Addr} {n : Nat} {cs cs' : List Value} (h : OwnS w B t k A n cs) {g : Nat} (hL : Lies w g t' cs') (hne : t' ≠ t) : some g ≠ A.map (·.block) := by
  obtain ⟨_, _, ⟨rfl, _⟩ | ⟨g', rest', rfl, _, hh'⟩⟩ := h
  · simp
  · intro e
    have e : some g = some g' := e
    injection e with e
    exact hL.apart hh' hne e
set_option maxHeartbeats 1000000 in
theorem markOwn_any (TA OA : Option Addr) (tc oc n m B : Nat) (got sold missed k0 : Int) (cs ds : List Value) (w : World) (hk : -1000 ≤ k0) (hk' : k0 ≤ 1000) (hn : n ≤ 1000000) (hm : m ≤ 1000000) (hB : B ≤ w.heap.size)
    (hT : OwnS w B 74 2 TA n cs) (hO : OwnS w B 100 3 OA m ds) :
    Calls Try.prog 18 #[.agg #[.slice TA n tc, .slice OA m oc, .int .i64 got, .int .i64 sold, .int .i64 missed], .int .i64 k0] w fun e w' => e = .returned (.int .i64 (k0 + 2 * n + 3 * m)) ∧
      OwnS w' B 74 2 TA n (encIs (ramp k0 (n * 2))) ∧ OwnS w' B 100 3 OA m (encIs (ramp (k0 + 2 * n) (m * 3))) ∧ Below B w w' ∧ ∀ g cs', Lies w g 25 cs' → Lies w' g 25 cs' := by
  have L0 := Lies.new w 25 #[.slice TA n tc, .slice OA m oc, .int .i64 got, .int .i64 sold, .int .i64 missed]
  have b0 := (Below.refl B w).alloc hB (.cells #[.slice TA n tc, .slice OA m oc, .int .i64 got, .int .i64 sold, .int .i64 missed] 25)
  have hal := (Below.refl w.heap.size w).alloc (Nat.le_refl _) (.cells #[.slice TA n tc, .slice OA m oc, .int .i64 got, .int .i64 sold, .int .i64 missed] 25)
  have hT1 := hT.then hal
  have hO1 := hO.then hal
  clear hT hO hal
  have hK : ∀ g cs', Lies w g 25 cs' → Lies (w.alloc (.cells #[.slice TA n tc, .slice OA m oc, .int .i64 got, .int .i64 sold, .int .i64 missed] 25)) g 25 cs' := fun g cs' h => h.alloc _
  go_enter Try.func18, Try.ntmps18
  go_wp2_with fail
  generalize w.alloc (.cells #[.slice TA n tc, .slice OA m oc, .int .i64 got, .int .i64 sold, .int .i64 missed] 25) = W at b0 L0 hT1 hO1 hK ⊢
  refine (markTrays_any TA tc n B k0 cs W (by omega) (by omega) (by omega) hT1).mono ?_
  rintro e w1 ⟨rfl, o1, gr1⟩
  have m1 := b0.grown gr1 (Nat.le_trans hB (by have := b0.size; omega)) (fun g hg => hT1.at_ge g hg)
  have hO2 := hO1.two hT1 ne_ot gr1
  have L1 := L0.kept gr1 (hT1.apartB L0 (by decide))
  have hK1 : ∀ g cs', Lies w g 25 cs' → Lies w1 g 25 cs' := fun g cs' h => (hK g cs' h).kept gr1 (hT1.apartB (hK g cs' h) (by decide))
  have c1 := L1.cell 1
  simp only [List.getElem?_cons_zero, List.getElem?_cons_succ] at c1
  go_wp2_with fail
  refine (markOutings_any OA oc m B _ ds w1 (by omega) (by omega) (by omega) hO2).mono ?_
  rintro e w2 ⟨rfl, o2, gr2⟩
  have m2 := m1.grown gr2 (Nat.le_trans hB m1.size) (fun g hg => hO2.at_ge g hg)
  have o3 := o1.two hO2 ne_to gr2
  have hK2 : ∀ g cs', Lies w g 25 cs' → Lies w2 g 25 cs' := fun g cs' h => (hK1 g cs' h).kept gr2 (hO2.apartB (hK1 g cs' h) (by decide))
  have HK := Lib.hid hK2
  clear hK hK1 hK2
  go_wp2
  go_ret
  exact ⟨rfl, o3, o2, m2, HK.out⟩

set_option maxHeartbeats 1000000 in
theorem heldOwn_any (TA OA : Option Addr) (tc oc n m : Nat) (got sold missed k0 : Int) (w : World) (hk : 0 ≤ k0) (hk' : k0 ≤ 1000) (hn : n ≤ 1000000) (hm : m ≤ 1000000)
    (hT : SlcR w w.heap.size 2 TA n (encIs (ramp k0 (n * 2)))) (hO : SlcR w w.heap.size 3 OA m (encIs (ramp (k0 + 2 * n) (m * 3)))) :
    Calls Try.prog 19 #[.agg #[.slice TA n tc, .slice OA m oc, .int .i64 got, .int .i64 sold, .int .i64 missed], .int .i64 k0] w fun e w' => e = .returned (.int .i64 (k0 + 2 * n + 3 * m)) ∧ Below w.heap.size w w' := by
  have L0 := Lies.new w 25 #[.slice TA n tc, .slice OA m oc, .int .i64 got, .int .i64 sold, .int .i64 missed]
  have hal := (Below.refl w.heap.size w).alloc (Nat.le_refl _) (.cells #[.slice TA n tc, .slice OA m oc, .int .i64 got, .int .i64 sold, .int .i64 missed] 25)
  have hT1 := SlcR.up hT hal (Nat.le_refl _)
  have hO1 := SlcR.up hO hal (Nat.le_refl _)
  clear hT hO
  go_enter Try.func19, Try.ntmps19
  go_wp2_with fail
  generalize w.alloc (.cells #[.slice TA n tc, .slice OA m oc, .int .i64 got, .int .i64 sold, .int .i64 missed] 25) = W at hal L0 hT1 hO1 ⊢
  refine (heldTrays_any TA tc n k0 W (by omega) (by omega) (by omega) hT1).mono ?_
  rintro e w1 ⟨rfl, hb1⟩
  have L1 := L0.below hb1 L0.lt
  have c1 := L1.cell 1
  simp only [List.getElem?_cons_zero, List.getElem?_cons_succ] at c1
  have hO2 := SlcR.up hO1 hb1 (Nat.le_refl _)
  go_wp2_with fail
  refine (heldOutings_any OA oc m (k0 + 2 * n) w1 (by omega) (by omega) (by omega) hO2).mono ?_
  rintro e w2 ⟨rfl, hb2⟩
  go_wp2
  go_ret
  exact ⟨rfl, bthen hal (bthen hb1 hb2)⟩
end Go.Proofs.Ytdiojhjkcholiaa

/- Operations of a drawn region: slicing a slice; appending to a row of the call's own (no program in sight). -/
namespace Go.Proofs.Ytdiojhjkcholiaa
open Go.RowKit

section
variable {P : Program} {ops : Array Oper} {tm : Array Value} {o : Oper} {a : Act} {w : World} {K : Act → World → Prop} {Q : Exit → Act → World → Prop} {E : Prop}
theorem elem_of {t e : TypeId} (ht : P.underlying t = some (.slice e)) : P.underlying t = some (.slice (P.elem t)) ∧ P.elem t = e := by
  have : P.elem t = e := by simp [Program.elem, ht]
  exact ⟨by rw [this]; exact ht, this⟩
theorem SlcR.take {B k n : Nat} {A : Option Addr} {cs : List Value} (h : SlcR w B k A n cs) (i : Nat) (hi : i ≤ n) : SlcR w B k A i (cs.take (i * k)) := by
  have hm : i * k ≤ n * k := Nat.mul_le_mul_right k hi
  refine ⟨by rw [List.length_take, h.len]; omega, by have := h.big; omega, fun h0 => ?_⟩
  obtain ⟨b, off, e, hb, hc⟩ := h.at_ (by omega)
  exact ⟨b, off, e, hb, fun j u hu => hc j u (by rw [List.getElem?_take] at hu; split at hu; exact hu; cases hu)⟩
theorem SlcR.drop {B k n : Nat} {A A' : Option Addr} {cs : List Value} (h : SlcR w B k A n cs) (i : Nat) (hi : i ≤ n) (hA : i < n → A' = A.map fun p => p.add (i * k)) : SlcR w B k A' (n - i) (cs.drop (i * k)) := by
  refine ⟨by rw [List.length_drop, h.len, Nat.sub_mul], by have := h.big; omega, fun h0 => ?_⟩
  obtain ⟨b, off, e, hb, hc⟩ := h.at_ (by omega)
  refine ⟨b, off + i * k, ?_, hb, fun j u hu => ?_⟩
  · rw [hA (by omega), e]; simp only [Option.map_some, addr_add]
  · rw [List.getElem?_drop] at hu
    have := hc _ u hu
    rwa [Nat.add_assoc]
theorem info_size {e : TypeId} {s : Nat} (hs : (P.info? e).map (·.size) = some s) : ∃ inf, P.info? e = some inf ∧ inf.size = s := by
  cases hq : P.info? e with
  | none => simp [hq] at hs
  | some inf => exact ⟨inf, rfl, by simpa [hq] using hs⟩
theorem map_add0 (A : Option Addr) : A.map (fun p => p.add 0) = A := by cases A <;> simp [Addr.add]
theorem run_sliceTo {t e : TypeId} (ht : P.underlying t = some (.slice e)) {s : Nat} (hs : (P.info? e).map (·.size) = some s) (A : Option Addr) (n c i : Nat) (hi : i ≤ n) (hc : n ≤ c) (w : World) :
    (Instr.slice t (.slice A n c) none (some (.int .i64 (i : Int))) none).run P w = .ok (.slice A i c) w := by
  obtain ⟨h1, h2⟩ := elem_of ht
  obtain ⟨inf, hin, hsz⟩ := info_size hs
  rw [run_slice_h (P := P) (w := w) t A n c h1 .i64 (i : Int) (by omega) (by omega), h2]
  simp [sizeOf, typeInfo, hin, sliced, map_add0]
theorem run_sliceFrom {t e : TypeId} (ht : P.underlying t = some (.slice e)) {s : Nat} (hs : (P.info? e).map (·.size) = some s) (A : Option Addr) (n c i : Nat) (hi : i ≤ n) (w : World) :
    (Instr.slice t (.slice A n c) (some (.int .i64 (i : Int))) none none).run P w = .ok (.slice (if c = i then A else A.map (fun p => p.add (i * s))) (n - i) (c - i)) w := by
  obtain ⟨h1, h2⟩ := elem_of ht
  obtain ⟨inf, hin, hsz⟩ := info_size hs
  rw [run_slice_l (P := P) (w := w) t A n c h1 .i64 (i : Int) (by omega) (by omega), h2]
  simp [sizeOf, typeInfo, hin, sliced, hsz]
/-- 'xs[:i]'. -/
theorem step_sliceTo (hg : o.guard = none) (t e : TypeId) (x y : Operand) (ho : o.op = .slice t x none (some y) none) (ht : P.underlying t = some (.slice e)) (s : Nat) (hs : (P.info? e).map (·.size) = some s)
    (A : Option Addr) (n c i : Nat) (hx : a.eval x = .slice A n c) (hy : a.eval y = .int .i64 (i : Int)) (hi : i ≤ n) (hc : n ≤ c)
    (h : K (a.put o.dst (.slice A i c)) w) : if Region.wanted o (yielded ops tm) = true then o.wp P a w K Q else E := by
  have hw : ∀ tm : Array Value, Region.wanted o (yielded ops tm) = true := fun tm => by simp [Region.wanted, hg]
  rw [if_pos (hw _)]
  unfold Oper.wp execOp
  simp only [ho, hx, Option.map_some, Option.map_none, hy, run_sliceAt_slice (P := P) (w := w) t _ _ _ _ (elem_of ht).1, run_sliceTo ht hs A n c i hi hc w, Sem.run_bind, Sem.run_pure, Result.andThen_ok]
  exact h
/-- 'xs[i:]'. -/
theorem step_sliceFrom (hg : o.guard = none) (t e : TypeId) (x y : Operand) (ho : o.op = .slice t x (some y) none none) (ht : P.underlying t = some (.slice e)) (s : Nat) (hs : (P.info? e).map (·.size) = some s)
    (A : Option Addr) (n c i : Nat) (hx : a.eval x = .slice A n c) (hy : a.eval y = .int .i64 (i : Int)) (hi : i ≤ n) (hc : n ≤ c)
    (h : ∀ A', (∀ (W : World) (B : Nat) (cs : List Value), SlcR W B s A n cs → SlcR W B s A' (n - i) (cs.drop (i * s))) → K (a.put o.dst (.slice A' (n - i) (c - i))) w) : if Region.wanted o (yielded ops tm) = true then o.wp P a w K Q else E := by
  have hw : ∀ tm : Array Value, Region.wanted o (yielded ops tm) = true := fun tm => by simp [Region.wanted, hg]
  rw [if_pos (hw _)]
  unfold Oper.wp execOp
  simp only [ho, hx, Option.map_some, Option.map_none, hy, run_sliceAt_slice (P := P) (w := w) t _ _ _ _ (elem_of ht).1, run_sliceFrom ht hs A n c i hi w, Sem.run_bind, Sem.run_pure, Result.andThen_ok]
  exact h _ fun W B cs hr => hr.drop i hi fun hlt => by rw [if_neg (by omega)]
/-- 'append(s, xs...)', s the call's own. -/
theorem step_cat (hg : o.guard = none) (s x : Operand) (t : TypeId) (ho : o.op = .call { callee := .builtin .append, args := #[s, x], argTypes := #[t, t] })
    (e : TypeId) (z : Value) (k bytes : Nat) (ht : P.underlying t = some (.slice e)) (hinfo : (P.info? e).map (fun i => (i.zero, i.size, i.bytes)) = some (some z, k, bytes)) (hzs : z.cells.size = k) (hsz : 0 < k) (hby : bytes ≤ 1000)
    (B : Nat) (v : Value) (n : Nat) (xs : List Value) (hs : a.eval s = v) (hown : w.ownsRow B e k v n xs)
    (S : Nat) (A : Option Addr) (m c : Nat) (cs : List Value) (hx : a.eval x = .slice A m c) (hr : SlcR w S k A m cs) (h1 : ∀ u ∈ cs, u.oneCell' = true)
    (hn : n + m ≤ 1000000000) (hbase : B ≤ w.heap.size)
    (h : ∀ A' c' w', w'.ownsRow B e k (.slice A' (n + m) c') (n + m) (xs ++ cs) → w.grownBy w' v.ownBlock → Below B w w' → K (a.put o.dst (.slice A' (n + m) c')) w') : if Region.wanted o (yielded ops tm) = true then o.wp P a w K Q else E := by
  have hw : ∀ tm : Array Value, Region.wanted o (yielded ops tm) = true := fun tm => by simp [Region.wanted, hg]
  rw [if_pos (hw _)]
  refine wp_cat s x t ho e z k bytes ht hinfo hzs hsz hby B v n xs hs (Lib.hid hown) S A m c cs hx (Lib.hid hr) h1 hn hbase fun v' w' h2 h3 h4 _ => ?_
  obtain ⟨A', c', rfl⟩ := ownsRow_slice h2.out
  exact h A' c' w' h2.out h3 h4
theorem ownsRow_cap {B k n : Nat} {e : TypeId} {A : Option Addr} {c : Nat} {xs : List Value} (h : w.ownsRow B e k (.slice A n c) n xs) : n ≤ c := by
  obtain ⟨_, ⟨h0, h1⟩ | ⟨g, cap, cur, hv, _, _, hc, _⟩⟩ := h
  · injection h0 with _ h2 h3; omega
  · injection hv with _ _ h3; omega
end
end Go.Proofs.Ytdiojhjkcholiaa
