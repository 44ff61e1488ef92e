/- Po04: the texts FactsN FactsR OffPS LawPO Open OpenText, joined into one file. -/
import Derived.ProofKit
import Derived.ChangeOld
import Derived.ShutString
import Derived.OpenShut
import Derived.Deep.Slices
import Derived.Deep.Fields
import Derived.Test.YtpjfidmapnnbkaaDoorProg
import Derived.Test.YtpjfidmapnnbkaaDoorPo01
import Derived.Test.YtpjfidmapnnbkaaDoorPo02
import Derived.Test.YtpjfidmapnnbkaaDoorPo03

set_option linter.unusedVariables false

/- A region whose order is drawn: one fact on each operation, which may also speak of one operation that comes ahead; each operation has its own way to turn the world (T k). -/
namespace Go.Proofs.YtpjfidmapnnbkaaDoor
open Go.RowKit

/-- A fact on an operation's value, and on the value of one that comes ahead of it. -/
structure FactN where
  D : Nat
  R : Value → Value → World → Prop
  Br : List Nat := []
def FactN.at (f : FactN) (vs : Nat → Value) (j : Nat) (w : World) : Prop := f.R (vs f.D) (vs j) w
/-- No other operation that may come behind it turns the fact. -/
def FactN.firm (ops : Array Oper) (T : Nat → World → World → Prop) (j : Nat) (f : FactN) : Prop := ∀ i, i ≠ j → i ∉ f.Br → ahead .any ops ops.size j i = false → ∀ u v w w', f.R u v w → T i w w' → f.R u v w'
/-- The fact still stands when operation k comes. -/
def FactN.live (ops : Array Oper) (k : Nat) (f : FactN) : Bool := f.Br.all fun i => i == k || ahead .any ops ops.size i k
def FactN.fine (ops : Array Oper) (j : Nat) (f : FactN) : Prop := (∀ u u' v w, f.R u v w → f.R u' v w) ∨ ahead .any ops ops.size j f.D = true
theorem FactN.eq {V : Value} {vs : Nat → Value} {j : Nat} {w : World} (h : FactN.at ⟨0, fun _ v _ => v = V, []⟩ vs j w) : vs j = V := h
/-- What has come up when operation k comes. -/
structure Gone (ops : Array Oper) (L : Nat → Bool) (k : Nat) : Prop where
  self : L k = false
  done : ∀ j, ahead .any ops ops.size k j = true → L j = true
  open_ : ∀ j, ahead .any ops ops.size j k = true → L j = false
def Listed.but (L : Nat → Bool) (k : Nat) : Nat → Bool := fun j => if j = k then true else L j
section
variable {P : Program} {ops : Array Oper} {Q : Exit → Act → World → Prop}

/-- The walk: a fact R on each operation's value; the facts of those that come ahead are at hand. -/
def wpFactsN (P : Program) (ops : Array Oper) (Q : Exit → Act → World → Prop) (C : (Nat → Bool) → World → Prop) (T : Nat → World → World → Prop) (fr : (Nat → Value) → Act) : Nat → List Oper → List FactN → Prop
  | _, [], Rs => ∀ vs L w, (∀ j, j < ops.size → L j = true) → C L w → (∀ (j : Nat) (R : FactN), R.Br = [] → Rs[j]? = some R → R.at vs j w) → Q .normal (fr vs) w
  | k, o :: l, Rs => ∃ R : FactN, R.fine ops k ∧ R.firm ops T k ∧
    (∀ vs L w, Gone ops L k → C L w → (∀ (j : Nat) (R' : FactN), ahead .any ops ops.size k j = true → R'.live ops k = true → Rs[j]? = some R' → R'.at vs j w) → ∀ K : Act → World → Prop, (∀ a' v w', a' = (fr vs).put o.dst v → R.R (vs R.D) v w' → C (Listed.but L k) w' → T k w w' → K a' w') →
      if Region.wanted o (yielded ops (fr vs).tmps) = true then o.wp P (fr vs) w K Q else K ((fr vs).put o.dst undef) w) ∧
    wpFactsN P ops Q C T fr (k + 1) l (Rs ++ [R])

/-- What the walk gives: the facts, one for each operation. -/
theorem wpFactsN_all {C : (Nat → Bool) → World → Prop} {T : Nat → World → World → Prop} {fr : (Nat → Value) → Act} : ∀ (l : List Oper) (k : Nat) (Rs : List FactN), (∀ i, l[i]? = ops[k + i]?) → Rs.length = k →
    (∀ (j : Nat) (R : FactN), Rs[j]? = some R → R.fine ops j ∧ R.firm ops T j) →
    (∀ (j : Nat) (o : Oper) (R : FactN), j < k → ops[j]? = some o → Rs[j]? = some R → ∀ vs L w, Gone ops L j → C L w → (∀ (j' : Nat) (R' : FactN), ahead .any ops ops.size j j' = true → R'.live ops j = true → j' < j → Rs[j']? = some R' → R'.at vs j' w) → ∀ K : Act → World → Prop, (∀ a' v w', a' = (fr vs).put o.dst v → R.R (vs R.D) v w' → C (Listed.but L j) w' → T j w w' → K a' w') →
      if Region.wanted o (yielded ops (fr vs).tmps) = true then o.wp P (fr vs) w K Q else K ((fr vs).put o.dst undef) w) →
    wpFactsN P ops Q C T fr k l Rs →
    ∃ Rs' : List FactN, Rs'.length = k + l.length ∧ (∀ (j : Nat) (R : FactN), Rs'[j]? = some R → R.fine ops j ∧ R.firm ops T j) ∧
    (∀ (j : Nat) (o : Oper) (R : FactN), ops[j]? = some o → Rs'[j]? = some R → ∀ vs L w, Gone ops L j → C L w → (∀ (j' : Nat) (R' : FactN), ahead .any ops ops.size j j' = true → R'.live ops j = true → j' < j → Rs'[j']? = some R' → R'.at vs j' w) → ∀ K : Act → World → Prop, (∀ a' v w', a' = (fr vs).put o.dst v → R.R (vs R.D) v w' → C (Listed.but L j) w' → T j w w' → K a' w') →
      if Region.wanted o (yielded ops (fr vs).tmps) = true then o.wp P (fr vs) w K Q else K ((fr vs).put o.dst undef) w) ∧
    (∀ vs L w, (∀ j, j < ops.size → L j = true) → C L w → (∀ (j : Nat) (R : FactN), R.Br = [] → Rs'[j]? = some R → R.at vs j w) → Q .normal (fr vs) w)
  | [], k, Rs, hl, hlen, hst, hop, h => by
    refine ⟨Rs, by simpa using hlen, hst, fun j o R ho hR => hop j o R ?_ ho hR, h⟩
    rw [← hlen]; exact (List.getElem?_eq_some_iff.1 hR).1
  | o :: l, k, Rs, hl, hlen, hst, hop, h => by
    obtain ⟨R, hRf, hRs, hRo, hrest⟩ := h
    have ho : ops[k]? = some o := by simpa using (hl 0).symm
    have hold : ∀ j, j < k → (Rs ++ [R])[j]? = Rs[j]? := fun j hj => List.getElem?_append_left (by omega)
    have hnew : (Rs ++ [R])[k]? = some R := by rw [List.getElem?_append_right (by omega), hlen]; simp
    obtain ⟨Rs', h1, h2, h3, h4⟩ := wpFactsN_all l (k + 1) (Rs ++ [R]) (fun i => by have := hl (i + 1); simpa [Nat.add_assoc, Nat.add_comm 1 i] using this) (by simp [hlen])
      (fun j R' hR' => by
        rcases Nat.lt_trichotomy j k with hj | hj | hj
        · rw [hold j hj] at hR'; exact hst j R' hR'
        · subst hj; rw [hnew] at hR'; cases hR'; exact ⟨hRf, hRs⟩
        · rw [List.getElem?_eq_none (by simp [hlen]; omega)] at hR'; cases hR')
      (fun j o' R' hj ho' hR' vs L w hG hC hB K hK => by
        rcases Nat.lt_or_ge j k with hjk | hjk
        · rw [hold j hjk] at hR'
          exact hop j o' R' hjk ho' hR' vs L w hG hC (fun j' R'' ha hv hlt h'' => hB j' R'' ha hv hlt (by rw [hold j' (by omega)]; exact h'')) K hK
        · obtain rfl : j = k := by omega
          rw [ho] at ho'; cases ho'
          rw [hnew] at hR'; cases hR'
          refine hRo vs L w hG hC (fun j' R'' ha hv h'' => ?_) K hK
          have hlt : j' < Rs.length := (List.getElem?_eq_some_iff.1 h'').1
          exact hB j' R'' ha hv (by omega) (by rw [hold j' (by omega)]; exact h''))
      hrest
    exact ⟨Rs', by rw [h1]; simp; omega, h2, h3, h4⟩

theorem getD_set_self {i : Nat} {listed : Array Bool} (h : i < listed.size) : (listed.setIfInBounds i true).getD i false = true := by simp [h]
theorem wpAny_factsN {C : (Nat → Bool) → World → Prop} {T : Nat → World → World → Prop} {a₀ : Act} (hap : dstsApart ops.toList = true) (hdn : edgesDown .any ops = true) (Rs : List FactN) (hlen : Rs.length = ops.size)
    (hst : ∀ (j : Nat) (R : FactN), Rs[j]? = some R → R.fine ops j ∧ R.firm ops T j)
    (hop : ∀ (j : Nat) (o : Oper) (R : FactN), ops[j]? = some o → Rs[j]? = some R → ∀ vs L w, Gone ops L j → C L w → (∀ (j' : Nat) (R' : FactN), ahead .any ops ops.size j j' = true → R'.live ops j = true → j' < j → Rs[j']? = some R' → R'.at vs j' w) → ∀ K : Act → World → Prop, (∀ a' v w', a' = (fillOps vs ops.toList 0 a₀).put o.dst v → R.R (vs R.D) v w' → C (Listed.but L j) w' → T j w w' → K a' w') →
      if Region.wanted o (yielded ops (fillOps vs ops.toList 0 a₀).tmps) = true then o.wp P (fillOps vs ops.toList 0 a₀) w K Q else K ((fillOps vs ops.toList 0 a₀).put o.dst undef) w)
    (hend : ∀ vs L w, (∀ j, j < ops.size → L j = true) → C L w → (∀ (j : Nat) (R : FactN), R.Br = [] → Rs[j]? = some R → R.at vs j w) → Q .normal (fillOps vs ops.toList 0 a₀) w) :
    ∀ (fuel : Nat) (listed : Array Bool) (vs : Nat → Value) (w : World), listed.size = ops.size → unlisted ops.size listed ≤ fuel → Closed .any ops listed → C (fun j => listed.getD j false) w → (∀ (j : Nat) (R : FactN), listed.getD j false = true → (∀ i ∈ R.Br, listed.getD i false = false) → Rs[j]? = some R → R.at vs j w) →
      wpAny P .any ops Q fuel listed (fillOps vs ops.toList 0 a₀) w := by
  have hfin : ∀ (listed : Array Bool) (vs : Nat → Value) (w : World), listed.size = ops.size → C (fun j => listed.getD j false) w → (∀ (j : Nat) (R : FactN), listed.getD j false = true → (∀ i ∈ R.Br, listed.getD i false = false) → Rs[j]? = some R → R.at vs j w) → Region.ready .any ops listed = [] → Q .normal (fillOps vs ops.toList 0 a₀) w :=
    fun listed vs w hs hC hR hr => hend vs _ w (fun j hj => listed_ready hdn hs hr j hj) hC fun j R hbr hj => hR j R (listed_ready hdn hs hr j (by rw [← hlen]; exact (List.getElem?_eq_some_iff.1 hj).1)) (by rw [hbr]; intro i hi; cases hi) hj
  intro fuel
  induction fuel with
  | zero =>
    intro listed vs w hs hu hcl hC hR
    have hr : Region.ready .any ops listed = [] := by
      rw [List.eq_nil_iff_forall_not_mem]
      intro j hj
      obtain ⟨h0, o, ho, _⟩ := mem_ready.1 hj
      have hjs : j < ops.size := (Array.getElem?_eq_some_iff.1 ho).1
      have : unlisted ops.size (listed.setIfInBounds j true) < unlisted ops.size listed := unlisted_set hjs hs (by
        have : j < listed.size := by omega
        simp only [Array.getD, this, ↓reduceDIte] at h0 ⊢; exact h0)
      omega
    exact ⟨hr, hfin listed vs w hs hC hR hr⟩
  | succ fuel ih =>
    intro listed vs w hs hu hcl hC hR
    refine ⟨hfin listed vs w hs hC hR, fun i hi => ?_⟩
    obtain ⟨h0, o, ho, hall⟩ := mem_ready.1 hi
    have hisz : i < ops.size := (Array.getElem?_eq_some_iff.1 ho).1
    have hil : i < listed.size := by omega
    have h0' : listed.getD i false = false := by simp only [Array.getD, hil, ↓reduceDIte] at h0 ⊢; exact h0
    obtain ⟨R, hRi⟩ : ∃ R, Rs[i]? = some R := ⟨Rs[i]'(by omega), List.getElem?_eq_getElem (by omega)⟩
    have hclo : ∀ j, ahead .any ops ops.size i j = true → listed.getD j false = true := fun j ha => ahead_listed hcl ops.size i j (fun o' ho' => by rw [ho] at ho'; cases ho'; exact hall) ha
    have hopn : ∀ j, ahead .any ops ops.size j i = true → listed.getD j false = false := fun j ha => by
      rcases hq : listed.getD j false with _ | _
      · rfl
      · have hl := ahead_listed hcl ops.size j i (fun o' ho' => hcl j o' ho' hq) ha
        rw [h0'] at hl; cases hl
    have hstep := hop i o R ho hRi vs (fun j => listed.getD j false) w ⟨h0', hclo, hopn⟩ hC (fun j' R' ha hv _ hR' => hR j' R' (ahead_listed hcl ops.size i j' (fun o' ho' => by rw [ho] at ho'; cases ho'; exact hall) ha) (fun i' hi' => by
        have hv' := List.all_eq_true.1 hv i' hi'
        simp only [Bool.or_eq_true, beq_iff_eq] at hv'
        rcases hv' with rfl | hv'
        · exact h0'
        · rcases hq : listed.getD i' false with _ | _
          · rfl
          · have hl := ahead_listed hcl ops.size i' i (fun o' ho' => hcl i' o' ho' hq) hv'
            rw [h0'] at hl; cases hl) hR')
      (wpAny P .any ops Q fuel (listed.setIfInBounds i true)) (fun a' v w' ha hRv hC' hT => by
        rw [ha, fillOps_upd ops.toList 0 a₀ vs i o v hap (by simpa using ho), Nat.zero_add]
        have hC9 : C (fun j => (listed.setIfInBounds i true).getD j false) w' := by
          have e : (fun j => (listed.setIfInBounds i true).getD j false) = Listed.but (fun j => listed.getD j false) i := by
            funext j
            unfold Listed.but
            by_cases e : j = i
            · subst e; rw [if_pos rfl]; exact getD_set_self hil
            · rw [if_neg e]; exact getD_set_ne false (Ne.symm e)
          rw [e]; exact hC'
        refine ih _ _ _ (by simpa using hs) ?_ ?_ hC9 ?_
        · have := unlisted_set hisz hs h0'; omega
        · intro j oj hoj hj e he hb
          by_cases hji : j = i
          · subst hji; rw [ho] at hoj; cases hoj; exact getD_set_true (hall e he hb)
          · rw [getD_set_ne false (Ne.symm hji)] at hj; exact getD_set_true (hcl j oj hoj hj e he hb)
        · intro j R' hj hbr hR'
          have key : ∀ (u' : Value), R'.R (vs R'.D) u' w' → R'.R (upd vs i v R'.D) u' w' := fun u' h => by
            by_cases hDi : R'.D = i
            · rcases (hst j R' hR').1 with hf | ha
              · exact hf _ _ _ _ h
              · exfalso
                have hl : listed.getD R'.D false = true := by
                  by_cases hji : j = i
                  · subst hji; exact ahead_listed hcl ops.size j _ (fun o' ho' => by rw [ho] at ho'; cases ho'; exact hall) ha
                  · rw [getD_set_ne false (Ne.symm hji)] at hj
                    exact ahead_listed hcl ops.size j _ (fun o' ho' => hcl j o' ho' hj) ha
                rw [hDi, h0'] at hl; cases hl
            · have : upd vs i v R'.D = vs R'.D := by unfold upd; rw [if_neg hDi]
              rw [this]; exact h
          unfold FactN.at
          by_cases hji : j = i
          · subst hji; rw [hRi] at hR'; cases hR'
            have : upd vs j v j = v := by unfold upd; rw [if_pos rfl]
            rw [this]
            exact key v hRv
          · rw [getD_set_ne false (Ne.symm hji)] at hj
            have hai : ahead .any ops ops.size j i = false := by
              rcases hq : ahead .any ops ops.size j i with _ | _
              · rfl
              · have hl := ahead_listed hcl ops.size j i (fun o' ho' => hcl j o' ho' hj) hq
                rw [h0'] at hl; cases hl
            have hib : i ∉ R'.Br := fun hm => by have h1 := hbr i hm; rw [getD_set_self hil] at h1; cases h1
            have hbr' : ∀ i' ∈ R'.Br, listed.getD i' false = false := fun i' hm => by
              have h1 := hbr i' hm
              by_cases e : i' = i
              · subst e; exact absurd hm hib
              · rwa [getD_set_ne false (Ne.symm e)] at h1
            have h3 := (hst j R' hR').2 i (Ne.symm hji) hib hai _ _ _ _ (hR j R' hj hbr' hR') hT
            have : upd vs i v j = vs j := by unfold upd; rw [if_neg hji]
            rw [this]
            refine key _ ?_
            exact h3)
    unfold wpOp
    simp only [ho]
    split
    · rename_i hw; rw [if_pos hw] at hstep; exact .inl hstep
    · rename_i hw; rw [if_neg hw] at hstep; exact hstep

/-- The region. -/
theorem wp_region_factsN {id : Nat} {a : Act} {w : World} {l : List Oper} (C : (Nat → Bool) → World → Prop) (T : Nat → World → World → Prop) (hm : P.follows .mixedOrders = true) (hap : dstsApart l = true) (hdn : edgesDown .any l.toArray = true)
    (hC : C (fun _ => false) w.drew) (h : wpFactsN P l.toArray Q C T (fun vs => fillOps vs l 0 a) 0 l []) : (Code.region id l.toArray true).wp P Q a w := by
  refine wp_region_any hm ?_
  obtain ⟨Rs, h1, h2, h3, h4⟩ := wpFactsN_all (ops := l.toArray) l 0 [] (by simp) rfl (by simp) (by simp) h
  obtain ⟨vs, hvs⟩ : ∃ vs : Nat → Value, ∀ i o t, l[i]? = some o → o.dst = some t → vs (0 + i) = a.tmps.getD t undef :=
    ⟨fun i => match (l[i]?).bind (·.dst) with | some t => a.tmps.getD t undef | none => undef, fun i o t hi ht => by simp [hi, ht]⟩
  have := wpAny_factsN (P := P) (Q := Q) (ops := l.toArray) (C := C) (T := T) (a₀ := a) hap hdn Rs (by simpa using h1) h2 h3 h4 l.toArray.size (Array.replicate l.toArray.size false) vs w.drew (by simp)
    (Nat.le_trans (List.length_filter_le _ _) (by simp)) (fun j o hj hl => by simp [Array.getD] at hl) (by
      have e : (fun j => (Array.replicate l.toArray.size false).getD j false) = fun _ => false := by funext j; simp [Array.getD]
      rw [e]; exact hC) (fun j R hl => by simp [Array.getD] at hl)
  rwa [fillOps_self vs _ 0 a (by simpa using hvs)] at this

theorem wpFactsN_nil {C : (Nat → Bool) → World → Prop} {T : Nat → World → World → Prop} {fr : (Nat → Value) → Act} {k : Nat} {Rs : List FactN} (h : ∀ vs L w, (∀ j, j < ops.size → L j = true) → C L w → (∀ (j : Nat) (R : FactN), R.Br = [] → Rs[j]? = some R → R.at vs j w) → Q .normal (fr vs) w) : wpFactsN P ops Q C T fr k [] Rs := h
/-- An operation with one value. -/
theorem wpFactsN_val {C : (Nat → Bool) → World → Prop} {T : Nat → World → World → Prop} {fr : (Nat → Value) → Act} {k : Nat} {o : Oper} {l : List Oper} {Rs : List FactN} (V : Value)
    (h1 : ∀ vs L w, Gone ops L k → C L w → (∀ (j : Nat) (R' : FactN), ahead .any ops ops.size k j = true → R'.live ops k = true → Rs[j]? = some R' → R'.at vs j w) → ∀ K : Act → World → Prop, (∀ a' w', a' = (fr vs).put o.dst V → C (Listed.but L k) w' → T k w w' → K a' w') →
      if Region.wanted o (yielded ops (fr vs).tmps) = true then o.wp P (fr vs) w K Q else K ((fr vs).put o.dst undef) w)
    (h2 : wpFactsN P ops Q C T fr (k + 1) l (Rs ++ [⟨0, fun _ v _ => v = V, []⟩])) : wpFactsN P ops Q C T fr k (o :: l) Rs :=
  ⟨⟨0, fun _ v _ => v = V, []⟩, .inl (fun _ _ _ _ h => h), fun _ _ _ _ _ _ _ _ h _ => h, fun vs L w hG hC hB K hK => h1 vs L w hG hC hB K fun a' w' ha hC' hT => hK a' V w' ha rfl hC' hT, h2⟩
/-- An operation whose value has a property. -/
theorem wpFactsN_some {C : (Nat → Bool) → World → Prop} {T : Nat → World → World → Prop} {fr : (Nat → Value) → Act} {k : Nat} {o : Oper} {l : List Oper} {Rs : List FactN} (Br : List Nat) (R : Value → World → Prop) (hR : ∀ i, i ≠ k → i ∉ Br → ahead .any ops ops.size k i = false → ∀ v w w', R v w → T i w w' → R v w')
    (h1 : ∀ vs L w, Gone ops L k → C L w → (∀ (j : Nat) (R' : FactN), ahead .any ops ops.size k j = true → R'.live ops k = true → Rs[j]? = some R' → R'.at vs j w) → ∀ K : Act → World → Prop, (∀ a' v w', a' = (fr vs).put o.dst v → R v w' → C (Listed.but L k) w' → T k w w' → K a' w') →
      if Region.wanted o (yielded ops (fr vs).tmps) = true then o.wp P (fr vs) w K Q else K ((fr vs).put o.dst undef) w)
    (h2 : wpFactsN P ops Q C T fr (k + 1) l (Rs ++ [⟨0, fun _ v w => R v w, Br⟩])) : wpFactsN P ops Q C T fr k (o :: l) Rs :=
  ⟨⟨0, fun _ v w => R v w, Br⟩, .inl (fun _ _ _ _ h => h), fun i hi hb ha _ v w w' h t => hR i hi hb ha v w w' h t, h1, h2⟩
/-- An operation whose value has a property that speaks of an operation ahead. -/
theorem wpFactsN_pair {C : (Nat → Bool) → World → Prop} {T : Nat → World → World → Prop} {fr : (Nat → Value) → Act} {k : Nat} {o : Oper} {l : List Oper} {Rs : List FactN} (Br : List Nat) (D : Nat) (R : Value → Value → World → Prop) (hD : ahead .any ops ops.size k D = true) (hR : ∀ i, i ≠ k → i ∉ Br → ahead .any ops ops.size k i = false → ∀ u v w w', R u v w → T i w w' → R u v w')
    (h1 : ∀ vs L w, Gone ops L k → C L w → (∀ (j : Nat) (R' : FactN), ahead .any ops ops.size k j = true → R'.live ops k = true → Rs[j]? = some R' → R'.at vs j w) → ∀ K : Act → World → Prop, (∀ a' v w', a' = (fr vs).put o.dst v → R (vs D) v w' → C (Listed.but L k) w' → T k w w' → K a' w') →
      if Region.wanted o (yielded ops (fr vs).tmps) = true then o.wp P (fr vs) w K Q else K ((fr vs).put o.dst undef) w)
    (h2 : wpFactsN P ops Q C T fr (k + 1) l (Rs ++ [⟨D, R, Br⟩])) : wpFactsN P ops Q C T fr k (o :: l) Rs :=
  ⟨⟨D, R, Br⟩, .inr hD, hR, h1, h2⟩
end
/-- One thing holds until operation s has been, another from then on. -/
def Sw (s : Nat) (C0 C1 : World → Prop) (L : Nat → Bool) (w : World) : Prop := if L s = true then C1 w else C0 w
section
variable {ops : Array Oper} {s k : Nat} {C0 C1 : World → Prop} {L : Nat → Bool} {w w' : World}
theorem Sw.start (h : C0 w) : Sw s C0 C1 (fun _ => false) w := by unfold Sw; rw [if_neg (by simp)]; exact h
theorem Sw.before (hG : Gone ops L k) (ha : ahead .any ops ops.size s k = true) (h : Sw s C0 C1 L w) : C0 w := by
  unfold Sw at h; rwa [if_neg (by rw [hG.open_ s ha]; simp)] at h
theorem Sw.stay (hG : Gone ops L k) (ha : ahead .any ops ops.size s k = true) (hne : s ≠ k) (h : C0 w) : Sw s C0 C1 (Listed.but L k) w := by
  unfold Sw Listed.but; rw [if_neg (by rw [if_neg hne, hG.open_ s ha]; simp)]; exact h
theorem Sw.here (hG : Gone ops L s) (h : Sw s C0 C1 L w) : C0 w := by unfold Sw at h; rwa [if_neg (by rw [hG.self]; simp)] at h
theorem Sw.turn (h : C1 w) : Sw s C0 C1 (Listed.but L s) w := by unfold Sw Listed.but; rw [if_pos (if_pos rfl)]; exact h
theorem Sw.after (hG : Gone ops L k) (ha : ahead .any ops ops.size k s = true) (h : Sw s C0 C1 L w) : C1 w := by unfold Sw at h; rwa [if_pos (hG.done s ha)] at h
theorem Sw.on (hG : Gone ops L k) (ha : ahead .any ops ops.size k s = true) (h : C1 w) : Sw s C0 C1 (Listed.but L k) w := by
  unfold Sw Listed.but; rw [if_pos (by rw [hG.done s ha]; simp)]; exact h
theorem Sw.both (hne : s ≠ k) (h0 : C0 w → C0 w') (h1 : C1 w → C1 w') (h : Sw s C0 C1 L w) : Sw s C0 C1 (Listed.but L k) w' := by
  unfold Sw Listed.but at *
  rw [if_neg hne]
  split at h
  · rename_i e; rw [if_pos e]; exact h1 h
  · rename_i e; rw [if_neg e]; exact h0 h
theorem Sw.done (hL : ∀ j, j < ops.size → L j = true) (hs : s < ops.size) (h : Sw s C0 C1 L w) : C1 w := by unfold Sw at h; rwa [if_pos (hL s hs)] at h
end
end Go.Proofs.YtpjfidmapnnbkaaDoor

/- The facts law with its facts the other way round: cheap look-ups. -/
namespace Go.Proofs.YtpjfidmapnnbkaaDoor
open Go.RowKit

section
variable {P : Program} {ops : Array Oper} {Q : Exit → Act → World → Prop}
/-- The same walk, the facts' list the other way round (its look-ups stay cheap). -/
def wpFactsR (P : Program) (ops : Array Oper) (Q : Exit → Act → World → Prop) (C : (Nat → Bool) → World → Prop) (T : Nat → World → World → Prop) (fr : (Nat → Value) → Act) : Nat → List Oper → List FactN → Prop
  | k, [], Rs => ∀ vs L w, (∀ j, j < ops.size → L j = true) → C L w → (∀ (j : Nat) (R : FactN), R.Br = [] → Rs[k - 1 - j]? = some R → j < k → R.at vs j w) → Q .normal (fr vs) w
  | k, o :: l, Rs => ∃ R : FactN, R.fine ops k ∧ R.firm ops T k ∧
    (∀ vs L w, Gone ops L k → C L w → (∀ (j : Nat) (R' : FactN), ahead .any ops ops.size k j = true → R'.live ops k = true → Rs[k - 1 - j]? = some R' → j < k → R'.at vs j w) → ∀ K : Act → World → Prop, (∀ a' v w', a' = (fr vs).put o.dst v → R.R (vs R.D) v w' → C (Listed.but L k) w' → T k w w' → K a' w') →
      if Region.wanted o (yielded ops (fr vs).tmps) = true then o.wp P (fr vs) w K Q else K ((fr vs).put o.dst undef) w) ∧
    wpFactsR P ops Q C T fr (k + 1) l (R :: Rs)
theorem rev_look {Rs : List FactN} {k j : Nat} {R : FactN} (hk : Rs.length = k) (h : Rs[k - 1 - j]? = some R) (hj : j < k) : Rs.reverse[j]? = some R := by
  rw [List.getElem?_reverse (by omega), hk]; exact h
theorem wpFactsR_N {C : (Nat → Bool) → World → Prop} {T : Nat → World → World → Prop} {fr : (Nat → Value) → Act} : ∀ (l : List Oper) (k : Nat) (Rs : List FactN), Rs.length = k → wpFactsR P ops Q C T fr k l Rs → wpFactsN P ops Q C T fr k l Rs.reverse
  | [], _, _, hk, h => fun vs L w hL hC hB => h vs L w hL hC fun j R hb hR hj => hB j R hb (rev_look hk hR hj)
  | _ :: l, k, Rs, hk, ⟨R, h1, h2, h3, h4⟩ => ⟨R, h1, h2, fun vs L w hG hC hB K hK => h3 vs L w hG hC (fun j R' ha hv hR hj => hB j R' ha hv (rev_look hk hR hj)) K hK, by
      have := wpFactsR_N l (k + 1) (R :: Rs) (by simp [hk]) h4
      rwa [List.reverse_cons] at this⟩
theorem wp_region_factsR {id : Nat} {a : Act} {w : World} {l : List Oper} (C : (Nat → Bool) → World → Prop) (T : Nat → World → World → Prop) (hm : P.follows .mixedOrders = true) (hap : dstsApart l = true) (hdn : edgesDown .any l.toArray = true)
    (hC : C (fun _ => false) w.drew) (h : wpFactsR P l.toArray Q C T (fun vs => fillOps vs l 0 a) 0 l []) : (Code.region id l.toArray true).wp P Q a w :=
  wp_region_factsN C T hm hap hdn hC (wpFactsR_N l 0 [] rfl h)
theorem wpFactsR_nil {C : (Nat → Bool) → World → Prop} {T : Nat → World → World → Prop} {fr : (Nat → Value) → Act} {k : Nat} {Rs : List FactN} (h : ∀ vs L w, (∀ j, j < ops.size → L j = true) → C L w → (∀ (j : Nat) (R : FactN), R.Br = [] → Rs[k - 1 - j]? = some R → j < k → R.at vs j w) → Q .normal (fr vs) w) : wpFactsR P ops Q C T fr k [] Rs := h
theorem wpFactsR_val {C : (Nat → Bool) → World → Prop} {T : Nat → World → World → Prop} {fr : (Nat → Value) → Act} {k : Nat} {o : Oper} {l : List Oper} {Rs : List FactN} (V : Value)
    (h1 : ∀ vs L w, Gone ops L k → C L w → (∀ (j : Nat) (R' : FactN), ahead .any ops ops.size k j = true → R'.live ops k = true → Rs[k - 1 - j]? = some R' → j < k → R'.at vs j w) → ∀ K : Act → World → Prop, (∀ a' w', a' = (fr vs).put o.dst V → C (Listed.but L k) w' → T k w w' → K a' w') →
      if Region.wanted o (yielded ops (fr vs).tmps) = true then o.wp P (fr vs) w K Q else K ((fr vs).put o.dst undef) w)
    (h2 : wpFactsR P ops Q C T fr (k + 1) l (⟨0, fun _ v _ => v = V, []⟩ :: Rs)) : wpFactsR P ops Q C T fr k (o :: l) Rs :=
  ⟨⟨0, fun _ v _ => v = V, []⟩, .inl (fun _ _ _ _ h => h), fun _ _ _ _ _ _ _ _ h _ => h, fun vs L w hG hC hB K hK => h1 vs L w hG hC hB K fun a' w' ha hC' hT => hK a' V w' ha rfl hC' hT, h2⟩
theorem wpFactsR_some {C : (Nat → Bool) → World → Prop} {T : Nat → World → World → Prop} {fr : (Nat → Value) → Act} {k : Nat} {o : Oper} {l : List Oper} {Rs : List FactN} (Br : List Nat) (R : Value → World → Prop) (hR : ∀ i, i ≠ k → i ∉ Br → ahead .any ops ops.size k i = false → ∀ v w w', R v w → T i w w' → R v w')
    (h1 : ∀ vs L w, Gone ops L k → C L w → (∀ (j : Nat) (R' : FactN), ahead .any ops ops.size k j = true → R'.live ops k = true → Rs[k - 1 - j]? = some R' → j < k → R'.at vs j w) → ∀ K : Act → World → Prop, (∀ a' v w', a' = (fr vs).put o.dst v → R v w' → C (Listed.but L k) w' → T k w w' → K a' w') →
      if Region.wanted o (yielded ops (fr vs).tmps) = true then o.wp P (fr vs) w K Q else K ((fr vs).put o.dst undef) w)
    (h2 : wpFactsR P ops Q C T fr (k + 1) l (⟨0, fun _ v w => R v w, Br⟩ :: Rs)) : wpFactsR P ops Q C T fr k (o :: l) Rs :=
  ⟨⟨0, fun _ v w => R v w, Br⟩, .inl (fun _ _ _ _ h => h), fun i hi hb ha _ v w w' h t => hR i hi hb ha v w w' h t, h1, h2⟩
theorem wpFactsR_pair {C : (Nat → Bool) → World → Prop} {T : Nat → World → World → Prop} {fr : (Nat → Value) → Act} {k : Nat} {o : Oper} {l : List Oper} {Rs : List FactN} (Br : List Nat) (D : Nat) (R : Value → Value → World → Prop) (hD : ahead .any ops ops.size k D = true) (hR : ∀ i, i ≠ k → i ∉ Br → ahead .any ops ops.size k i = false → ∀ u v w w', R u v w → T i w w' → R u v w')
    (h1 : ∀ vs L w, Gone ops L k → C L w → (∀ (j : Nat) (R' : FactN), ahead .any ops ops.size k j = true → R'.live ops k = true → Rs[k - 1 - j]? = some R' → j < k → R'.at vs j w) → ∀ K : Act → World → Prop, (∀ a' v w', a' = (fr vs).put o.dst v → R (vs D) v w' → C (Listed.but L k) w' → T k w w' → K a' w') →
      if Region.wanted o (yielded ops (fr vs).tmps) = true then o.wp P (fr vs) w K Q else K ((fr vs).put o.dst undef) w)
    (h2 : wpFactsR P ops Q C T fr (k + 1) l (⟨D, R, Br⟩ :: Rs)) : wpFactsR P ops Q C T fr k (o :: l) Rs :=
  ⟨⟨D, R, Br⟩, .inr hD, hR, h1, h2⟩
end
end Go.Proofs.YtpjfidmapnnbkaaDoor

/- The reference reads a row of the office. (Printed by gen_offs.py) -/
namespace Go.Proofs.YtpjfidmapnnbkaaDoor
open Go.RowKit

set_option maxRecDepth 100000 in
set_option maxHeartbeats 4000000 in
set_option linter.unusedVariables false in
theorem l31Cents_any (s : ByteArray) (w : World) (hs : s.size ≤ 70) :
    Calls Tryd.prog 8 #[.string s] w fun e w' => e = .returned (.int .i64 (centS (bl s))) ∧ Below w.heap.size w w' := by
  obtain ⟨minus, hminus⟩ : ∃ b : Bool, decide ((bl s).head? = some 45) = b := ⟨_, rfl⟩
  obtain ⟨u, hu⟩ : ∃ u : ByteArray, u = (if minus = true then s.extract 1 s.size else s) := ⟨_, rfl⟩
  have hbu : bl u = (if minus = true then (bl s).drop 1 else bl s) := by
    rw [hu]; cases minus
    · rfl
    · simp only [if_true]; rw [bl_extract, List.take_of_length_le (by rw [bl_size]; exact Nat.le_refl _)]
  have hzu : u.size ≤ 70 := by rw [← bl_size, hbu]; split; rw [List.length_drop, bl_size]; omega; rw [bl_size]; omega
  have HU := Lib.hid hu
  obtain ⟨ps, hps⟩ : ∃ l, splitL 46 (bl u) = l := ⟨_, rfl⟩
  have hpc := parts_count (b := 46) (n := 70) (s := bl u) (by rw [bl_size]; exact hzu)
  have hpm := parts_short (b := 46) (n := 70) (s := bl u) (by rw [bl_size]; exact hzu)
  have HSP := Lib.hid (fun W => l1Split_lies u 46 W (by omega))
  rw [hps] at hpc hpm HSP
  have HCE : Hid (centS (bl s) = if ps.length = 2 ∧ (ps.getD 1 []).length = 2 then
      (if minus = true then -100 * numD (ps.getD 0 []) - 10 * numD ((ps.getD 1 []).take 1) - numD ((ps.getD 1 []).drop 1)
       else 100 * numD (ps.getD 0 []) + 10 * numD ((ps.getD 1 []).take 1) + numD ((ps.getD 1 []).drop 1)) else 0) := by
    unfold centS Hid
    simp only [hminus]
    rw [← hbu, hps]
  have Hps := Lib.hid hpm
  have HMI := Lib.hid hminus
  obtain ⟨hp1, hp2⟩ := hpc
  clear hu hbu hps hpm hminus
  go_enter Tryd.func8, Tryd.ntmps8
  
  go_upto_region 1 with fail
  go_cut [3] (fun s3 wx => s3 = .bool minus ∧ w = wx)
  case first =>
    by_cases h0 : 0 < s.size
    · have i0 : (0 : Int) < (s.size : Int) := by omega
      have hd : (bl s).head? = some s[0] := by
        have := bl_drop (s := s) (k := 0) h0
        rw [List.drop_zero] at this; rw [this]; rfl
      have hq : ((s[0].toNat : Int) == 45) = minus := by
        rw [← HMI.out, hd, Bool.eq_iff_iff]; simp only [beq_iff_eq, decide_eq_true_eq, Option.some.injEq]
        constructor
        · intro h; exact UInt8.toNat_inj.1 (by have : (45 : UInt8).toNat = 45 := rfl; omega)
        · intro h; rw [h]; rfl
      clear hd
      go_wp2_with fail
      go_meet
      case rel => exact ⟨rfl, rfl⟩
    · have i0 : ¬ (0 : Int) < (s.size : Int) := by omega
      have hm : minus = false := by
        rw [← HMI.out, List.eq_nil_of_length_eq_zero (l := bl s) (by rw [bl_size]; omega)]; rfl
      have HM2 := Lib.hid hm
      clear hm
      go_wp2_with fail
      go_meet
      case rel => exact ⟨by rw [HM2.out], rfl⟩
  case rest =>
    obtain ⟨rfl, rfl⟩ := hcut
    go_upto_if 19 with fail
    go_cut [0] (fun s0 wx => s0 = .string u ∧ w = wx)
    case first =>
      cases minus with
      | true =>
        have h0 : 0 < s.size := by
          rcases Nat.eq_zero_or_pos s.size with h | h
          · exfalso
            have h1 := HMI.out
            rw [List.eq_nil_of_length_eq_zero (l := bl s) (by rw [bl_size]; exact h)] at h1
            simp at h1
          · exact h
        have i0 : (1 : Int) ≤ (s.size : Int) := by omega
        go_wp2_with fail
        go_meet
        case rel => exact ⟨by rw [HU.out]; rfl, rfl⟩
      | false =>
        go_wp2_with fail
        go_meet
        case rel => exact ⟨by rw [HU.out]; rfl, rfl⟩
    case rest =>
      obtain ⟨rfl, rfl⟩ := hcut
      go_wp2_with fail
      refine (HSP.out _).mono ?_
      rintro e w1 ⟨g4, c4, rest4, rfl, L4, hg4, hb1⟩
      have HL4 := Lib.hid L4
      have HB1 := Lib.hid hb1
      clear L4 hb1 hg4 HSP
      by_cases hl2 : ps.length = 2
      · have e2 : ((ps.length : Int) != 2) = false := by simp [hl2]
        have j0 : (0 : Int) < (ps.length : Int) := by omega
        have j1 : (1 : Int) < (ps.length : Int) := by omega
        have L4 := HL4.out
        have ct0 : w1.cell? ⟨g4, 0, none⟩ = some (.string ⟨(ps[0]'(by omega)).toArray⟩) := by
          rw [L4.cell]; exact texts_at2 ps _ _ (by omega)
        have ht := Hps.out (ps[0]'(by omega)) (List.getElem_mem _)
        obtain ⟨t0, hte⟩ : ∃ t : ByteArray, t = ⟨(ps[0]'(by omega)).toArray⟩ := ⟨_, rfl⟩
        have hbt0 : bl t0 = ps.getD 0 [] := by rw [hte, bl_mk, getD_at]
        rw [← hte] at ct0
        have hzt0 : t0.size ≤ 70 := by rw [← bl_size, hbt0, getD_at (by omega)]; exact ht
        clear hte ht
        have ct1 : w1.cell? ⟨g4, 1, none⟩ = some (.string ⟨(ps[1]'(by omega)).toArray⟩) := by
          rw [L4.cell]; exact texts_at2 ps _ _ (by omega)
        have ht := Hps.out (ps[1]'(by omega)) (List.getElem_mem _)
        obtain ⟨t1, hte⟩ : ∃ t : ByteArray, t = ⟨(ps[1]'(by omega)).toArray⟩ := ⟨_, rfl⟩
        have hbt1 : bl t1 = ps.getD 1 [] := by rw [hte, bl_mk, getD_at]
        rw [← hte] at ct1
        have hzt1 : t1.size ≤ 70 := by rw [← bl_size, hbt1, getD_at (by omega)]; exact ht
        clear hte ht
        have H2 := Lib.hid hl2
        clear L4 hl2
        by_cases hn2 : t1.size = 2
        · have e3 : ((t1.size : Int) != 2) = false := by simp [hn2]
          obtain ⟨ta, hta⟩ : ∃ x, t1.extract 0 1 = x := ⟨_, rfl⟩
          obtain ⟨tb, htb⟩ : ∃ x, t1.extract 1 t1.size = x := ⟨_, rfl⟩
          have hba : bl ta = (ps.getD 1 []).take 1 := by rw [← hta, bl_extract, hbt1]; simp
          have hbb : bl tb = (ps.getD 1 []).drop 1 := by rw [← htb, bl_extract, List.take_of_length_le (by rw [bl_size]; exact Nat.le_refl _), hbt1]
          have hza : ta.size ≤ 70 := by rw [← bl_size, hba, List.length_take, ← hbt1, bl_size]; omega
          have hzb : tb.size ≤ 70 := by rw [← bl_size, hbb, List.length_drop, ← hbt1, bl_size]; omega
          have k1 : (1 : Int) ≤ (t1.size : Int) := by omega
          have HR0 := Lib.hid (fun W => l1Read_any t0 W (by omega))
          have HRA := Lib.hid (fun W => l1Read_any ta W (by omega))
          have HRB := Lib.hid (fun W => l1Read_any tb W (by omega))
          obtain ⟨a, ha⟩ : ∃ z, (numF (bl t0)).getD 0 = z := ⟨_, rfl⟩
          obtain ⟨b, hb⟩ : ∃ z, (numF (bl ta)).getD 0 = z := ⟨_, rfl⟩
          obtain ⟨d, hd⟩ : ∃ z, (numF (bl tb)).getD 0 = z := ⟨_, rfl⟩
          have sa : Six a := by rw [← ha]; exact numD_six (bl t0)
          have sb : Six b := by rw [← hb]; exact numD_six (bl ta)
          have sd : Six d := by rw [← hd]; exact numD_six (bl tb)
          obtain ⟨sa1, sa2⟩ := sa
          obtain ⟨sb1, sb2⟩ := sb
          obtain ⟨sd1, sd2⟩ := sd
          have HV : Hid (centS (bl s) = if minus = true then -100 * a - 10 * b - d else 100 * a + 10 * b + d) := by
            rw [Hid, HCE.out, if_pos ⟨H2.out, by rw [← hbt1, bl_size]; exact hn2⟩, ← hbt0, ← hba, ← hbb]
            unfold numD
            rw [ha, hb, hd]
          have HN2 := Lib.hid hn2
          have HABD := Lib.hid (And.intro ha (And.intro hb hd))
          clear hba hbb hn2 hbt0 hbt1 HCE
          go_wp2_with fail
          refine (HR0.out _).mono ?_
          rintro e w2 ⟨rfl, hb2⟩
          rw [ha]
          have ct1' : w2.cell? ⟨g4, 1, none⟩ = some (.string t1) := (hb2.cell (by have := HL4.out.lt; exact this)).trans ct1
          have HB2 := Lib.hid (bthen HB1.out hb2)
          clear ct0 ct1 hb2 HB1
          go_wp2_with fail
          refine (HRA.out _).mono ?_
          rintro e w3 ⟨rfl, hb3⟩
          rw [hb]
          have ct2' : w3.cell? ⟨g4, 1, none⟩ = some (.string t1) := (hb3.cell (cell_lt ct1')).trans ct1'
          have HB3 := Lib.hid (bthen HB2.out hb3)
          clear ct1' hb3 HB2
          go_wp2_with fail
          refine (HRB.out _).mono ?_
          rintro e w4 ⟨rfl, hb4⟩
          rw [hd]
          have HB4 := Lib.hid (bthen HB3.out hb4)
          clear ct2' hb4 HB3 ha hb hd
          have m1 : IntKind.i64.wrap (-100 * a) = -100 * a := IntWalk.i64_in _ (by omega)
          have m2 : IntKind.i64.wrap (10 * b) = 10 * b := IntWalk.i64_in _ (by omega)
          have m3 : IntKind.i64.wrap (-100 * a - 10 * b) = -100 * a - 10 * b := IntWalk.i64_in _ (by omega)
          have m4 : IntKind.i64.wrap (-100 * a - 10 * b - d) = -100 * a - 10 * b - d := IntWalk.i64_in _ (by omega)
          have m5 : IntKind.i64.wrap (100 * a) = 100 * a := IntWalk.i64_in _ (by omega)
          have m6 : IntKind.i64.wrap (100 * a + 10 * b) = 100 * a + 10 * b := IntWalk.i64_in _ (by omega)
          have m7 : IntKind.i64.wrap (100 * a + 10 * b + d) = 100 * a + 10 * b + d := IntWalk.i64_in _ (by omega)
          cases minus with
          | true =>
            go_wp2_with fail
            go_ret
            exact ⟨by rw [HV.out]; rfl, HB4.out⟩
          | false =>
            go_wp2_with fail
            go_ret
            exact ⟨by rw [HV.out]; rfl, HB4.out⟩
        · have e3 : ((t1.size : Int) != 2) = true := by rw [bne_iff_ne]; omega
          have HV : Hid (centS (bl s) = 0) := by rw [Hid, HCE.out, if_neg (fun h => hn2 (by rw [← bl_size, hbt1]; exact h.2))]
          clear hn2
          go_wp2_with fail
          go_ret
          exact ⟨by rw [HV.out]; rfl, HB1.out⟩
      · have e2 : ((ps.length : Int) != 2) = true := by rw [bne_iff_ne]; omega
        have HV : Hid (centS (bl s) = 0) := by rw [Hid, HCE.out, if_neg (fun h => hl2 h.1)]
        clear hl2
        go_wp2_with fail
        go_ret
        exact ⟨by rw [HV.out]; rfl, HB1.out⟩


/-- The rows of words and of numbers, while a row is read. -/
structure OS2 (w wx : World) (g8 : Nat) (ws : List (List UInt8)) (rest : List Value) (g6 : Nat) (cs : List Value) : Prop where
  bl : Below w.heap.size w wx
  out : Lies wx w.heap.size 23 [.int .i64 0, .int .i64 0, .int .i64 0, .int .i64 0, .int .i64 0]
  ws : Lies wx g8 9 (texts ws ++ rest)
  now : Lies wx g6 23 cs
  h1 : w.heap.size < g6
  h2 : g8 < g6
theorem OS2.then {w wx wy : World} {g8 g6 : Nat} {ws : List (List UInt8)} {rest cs : List Value} (h : OS2 w wx g8 ws rest g6 cs) (hb : Below wx.heap.size wx wy) : OS2 w wy g8 ws rest g6 cs :=
  ⟨bthen h.bl hb, h.out.below hb h.out.lt, h.ws.below hb h.ws.lt, h.now.below hb h.now.lt, h.h1, h.h2⟩
theorem OS2.put {w wx wy : World} {g8 g6 : Nat} {ws : List (List UInt8)} {rest cs cs' : List Value} (h : OS2 w wx g8 ws rest g6 cs) (hg : wx.grownBy wy (some g6)) (hL : Lies wy g6 23 cs') : OS2 w wy g8 ws rest g6 cs' :=
  ⟨bel_grow h.bl hg (Nat.le_of_lt h.h1) (Nat.le_refl _), h.out.kept hg (by intro e; injection e with e; have := h.h1; omega), h.ws.kept hg (by intro e; injection e with e; have := h.h2; omega), hL, h.h1, h.h2⟩
structure OS3 (w wx : World) : Prop where
  bl : Below w.heap.size w wx
  out : Lies wx w.heap.size 23 [.int .i64 0, .int .i64 0, .int .i64 0, .int .i64 0, .int .i64 0]
theorem grownB {w w' : World} (h : Below w.heap.size w w') (row : Option Nat) : w.grownBy w' row := ⟨h.os, h.tape, h.output, h.size, fun k hk _ => h.block k hk⟩
/-- What the reference asks ahead. -/
def Pre0 (s : List UInt8) (ws : List (List UInt8)) : Prop := s.length ≤ 70 ∧ (ws.length = 5 ∨ ws.length = 7) ∧ 3 ≤ (ws.getD 0 []).length ∧ 2 ≤ (ws.getD 1 []).length ∧ 2 ≤ (ws.getD 2 []).length
theorem pre_no {s : List UInt8} {ws : List (List UInt8)} (hw : splitL 32 s = ws) (h : ¬ (Pre0 s ws ∧ (rowS ws).ok = true ∧ lineT (rowS ws) = s)) : lineR s = (zrow, false) := by
  have hn : lineF s = none := lineF_none fun r hr e => by
    have hl := line_read hr
    have hz := line_short hr
    rw [e] at hl hz
    simp only [hw] at hl
    obtain ⟨h1, _, _, _, _, _, h7, h8, h9, h10⟩ := hl
    exact h ⟨⟨hz, h1, h8, h9, h10⟩, by rw [h7]; exact hr, by rw [h7]; exact e⟩
  unfold lineR; rw [hn]
theorem pre_yes {s : List UInt8} {ws : List (List UInt8)} (h : (rowS ws).ok = true ∧ lineT (rowS ws) = s) : lineR s = (rowS ws, true) := by
  unfold lineR; rw [lineF_eq h.1 h.2]

set_option maxRecDepth 100000 in
set_option maxHeartbeats 8000000 in
set_option linter.unusedVariables false in
theorem specParseOffice_any (s : ByteArray) (w : World) (hs : s.size ≤ 2000000) :
    Calls Tryd.prog 4 #[.string s] w (GivesLn s w) := by
  have L2 := Lies.new w 23 #[.int .i64 0, .int .i64 0, .int .i64 0, .int .i64 0, .int .i64 0]
  have b2 := (Below.refl w.heap.size w).alloc (Nat.le_refl _) (.cells #[.int .i64 0, .int .i64 0, .int .i64 0, .int .i64 0, .int .i64 0] 23)
  have HSP := Lib.hid (l1Split_lies s 32 (w.alloc (.cells #[.int .i64 0, .int .i64 0, .int .i64 0, .int .i64 0, .int .i64 0] 23)) (by omega))
  obtain ⟨ws, hws⟩ : ∃ l, splitL 32 (bl s) = l := ⟨_, rfl⟩
  rw [hws] at HSP
  have hpc := parts_count (b := 32) (n := 2000000) (s := bl s) (by rw [bl_size]; exact hs)
  have hpm := parts_short (b := 32) (n := 2000000) (s := bl s) (by rw [bl_size]; exact hs)
  rw [hws] at hpc hpm
  obtain ⟨hp1, hp2⟩ := hpc
  have HWS := Lib.hid hws
  have Hws := Lib.hid hpm
  clear hws hpm
  go_enter Tryd.func4, Tryd.ntmps4
  go_wp2_with fail
  refine HSP.out.mono ?_
  rintro e w3 ⟨g8, c8, rest, rfl, L8, hg8, hb3⟩
  have b3 := bthen b2 hb3
  have K2 := L2.below hb3 L2.lt
  clear L2 b2 hb3 HSP
  have HB3 := Lib.hid b3
  have HK2 := Lib.hid K2
  have HL8 := Lib.hid L8
  clear b3 K2 L8
  go_upto_region 3 with fail
  go_cut [42] (fun s42 wx => (∃ b : Bool, s42 = .bool b ∧ Hid (b = false ↔ Pre0 (bl s) ws)) ∧ w3 = wx)
  case first =>
    by_cases h70 : s.size ≤ 70
    · have i0 : ¬ (70 : Int) < (s.size : Int) := by omega
      by_cases h57 : ws.length = 5 ∨ ws.length = 7
      · have j0 : (0 : Int) < (ws.length : Int) := by omega
        have j1 : (1 : Int) < (ws.length : Int) := by omega
        have j2 : (2 : Int) < (ws.length : Int) := by omega
        have L8 := HL8.out
        have ct0 : w3.cell? ⟨g8, 0, none⟩ = some (.string ⟨(ws[0]'(by omega)).toArray⟩) := by
          rw [L8.cell]; exact texts_at2 ws _ _ (by omega)
        have ht := Hws.out (ws[0]'(by omega)) (List.getElem_mem _)
        obtain ⟨t0, hte⟩ : ∃ t : ByteArray, t = ⟨(ws[0]'(by omega)).toArray⟩ := ⟨_, rfl⟩
        have hbt0 : bl t0 = ws.getD 0 [] := by rw [hte, bl_mk, getD_at]
        rw [← hte] at ct0
        have hzt0 : t0.size ≤ 2000000 := by rw [← bl_size, hbt0, getD_at (by omega)]; exact ht
        clear hte ht
        have ct1 : w3.cell? ⟨g8, 1, none⟩ = some (.string ⟨(ws[1]'(by omega)).toArray⟩) := by
          rw [L8.cell]; exact texts_at2 ws _ _ (by omega)
        have ht := Hws.out (ws[1]'(by omega)) (List.getElem_mem _)
        obtain ⟨t1, hte⟩ : ∃ t : ByteArray, t = ⟨(ws[1]'(by omega)).toArray⟩ := ⟨_, rfl⟩
        have hbt1 : bl t1 = ws.getD 1 [] := by rw [hte, bl_mk, getD_at]
        rw [← hte] at ct1
        have hzt1 : t1.size ≤ 2000000 := by rw [← bl_size, hbt1, getD_at (by omega)]; exact ht
        clear hte ht
        have ct2 : w3.cell? ⟨g8, 2, none⟩ = some (.string ⟨(ws[2]'(by omega)).toArray⟩) := by
          rw [L8.cell]; exact texts_at2 ws _ _ (by omega)
        have ht := Hws.out (ws[2]'(by omega)) (List.getElem_mem _)
        obtain ⟨t2, hte⟩ : ∃ t : ByteArray, t = ⟨(ws[2]'(by omega)).toArray⟩ := ⟨_, rfl⟩
        have hbt2 : bl t2 = ws.getD 2 [] := by rw [hte, bl_mk, getD_at]
        rw [← hte] at ct2
        have hzt2 : t2.size ≤ 2000000 := by rw [← bl_size, hbt2, getD_at (by omega)]; exact ht
        clear hte ht
        clear L8
        have H57 := Lib.hid h57
        have e57 : ((ws.length : Int) != 5) = false ∨ (((ws.length : Int) != 5) = true ∧ ((ws.length : Int) != 7) = false) := by
          rcases h57 with h | h
          · left; simp [h]
          · right; rw [h]; exact ⟨rfl, rfl⟩
        clear h57
        obtain ⟨q0, hq0⟩ : ∃ b : Bool, decide ((t0.size : Int) < 3) = b := ⟨_, rfl⟩
        obtain ⟨q1, hq1⟩ : ∃ b : Bool, decide ((t1.size : Int) < 2) = b := ⟨_, rfl⟩
        obtain ⟨q2, hq2⟩ : ∃ b : Bool, decide ((t2.size : Int) < 2) = b := ⟨_, rfl⟩
        have HP : Hid ((q0 = false ∧ q1 = false ∧ q2 = false) ↔ Pre0 (bl s) ws) := by
          unfold Pre0 Hid
          rw [← hq0, ← hq1, ← hq2, ← hbt0, ← hbt1, ← hbt2, bl_size, bl_size, bl_size, bl_size]
          simp only [decide_eq_false_iff_not]
          constructor
          · rintro ⟨a, b, c⟩; exact ⟨h70, H57.out, by omega, by omega, by omega⟩
          · rintro ⟨_, _, a, b, c⟩; exact ⟨by omega, by omega, by omega⟩
        clear hbt0 hbt1 hbt2
        rcases e57 with e5 | ⟨e5, e7⟩
        · cases q0 with
          | true =>
            have i1 : (t0.size : Int) < 3 := of_decide_eq_true hq0
            clear hq0 hq1 hq2
            go_wp2_with fail
            go_meet
            case rel => exact ⟨⟨true, rfl, ⟨fun h => by (cases h), fun h => by (have := HP.out.2 h; cases this.1)⟩⟩, rfl⟩
          | false =>
            have i1 : ¬ (t0.size : Int) < 3 := of_decide_eq_false hq0
            cases q1 with
            | true =>
              have i2 : (t1.size : Int) < 2 := of_decide_eq_true hq1
              clear hq0 hq1 hq2
              go_wp2_with fail
              go_meet
              case rel => exact ⟨⟨true, rfl, ⟨fun h => by (cases h), fun h => by (have := HP.out.2 h; cases this.2.1)⟩⟩, rfl⟩
            | false =>
              have i2 : ¬ (t1.size : Int) < 2 := of_decide_eq_false hq1
              cases q2 with
              | true =>
                have i3 : (t2.size : Int) < 2 := of_decide_eq_true hq2
                clear hq0 hq1 hq2
                go_wp2_with fail
                go_meet
                case rel => exact ⟨⟨true, rfl, ⟨fun h => by (cases h), fun h => by (have := HP.out.2 h; cases this.2.2)⟩⟩, rfl⟩
              | false =>
                have i3 : ¬ (t2.size : Int) < 2 := of_decide_eq_false hq2
                clear hq0 hq1 hq2
                go_wp2_with fail
                go_meet
                case rel => exact ⟨⟨false, rfl, ⟨fun _ => HP.out.1 (by simp), fun _ => rfl⟩⟩, rfl⟩
        · cases q0 with
          | true =>
            have i1 : (t0.size : Int) < 3 := of_decide_eq_true hq0
            clear hq0 hq1 hq2
            go_wp2_with fail
            go_meet
            case rel => exact ⟨⟨true, rfl, ⟨fun h => by (cases h), fun h => by (have := HP.out.2 h; cases this.1)⟩⟩, rfl⟩
          | false =>
            have i1 : ¬ (t0.size : Int) < 3 := of_decide_eq_false hq0
            cases q1 with
            | true =>
              have i2 : (t1.size : Int) < 2 := of_decide_eq_true hq1
              clear hq0 hq1 hq2
              go_wp2_with fail
              go_meet
              case rel => exact ⟨⟨true, rfl, ⟨fun h => by (cases h), fun h => by (have := HP.out.2 h; cases this.2.1)⟩⟩, rfl⟩
            | false =>
              have i2 : ¬ (t1.size : Int) < 2 := of_decide_eq_false hq1
              cases q2 with
              | true =>
                have i3 : (t2.size : Int) < 2 := of_decide_eq_true hq2
                clear hq0 hq1 hq2
                go_wp2_with fail
                go_meet
                case rel => exact ⟨⟨true, rfl, ⟨fun h => by (cases h), fun h => by (have := HP.out.2 h; cases this.2.2)⟩⟩, rfl⟩
              | false =>
                have i3 : ¬ (t2.size : Int) < 2 := of_decide_eq_false hq2
                clear hq0 hq1 hq2
                go_wp2_with fail
                go_meet
                case rel => exact ⟨⟨false, rfl, ⟨fun _ => HP.out.1 (by simp), fun _ => rfl⟩⟩, rfl⟩
      · have e5 : ((ws.length : Int) != 5) = true := by rw [bne_iff_ne]; omega
        have e7 : ((ws.length : Int) != 7) = true := by rw [bne_iff_ne]; omega
        have HN := Lib.hid h57
        clear h57
        go_wp2_with fail
        go_meet
        case rel => exact ⟨⟨true, rfl, ⟨fun h => by (cases h), fun h => absurd h.2.1 HN.out⟩⟩, rfl⟩
    · have i0 : (70 : Int) < (s.size : Int) := by omega
      go_wp2_with fail
      go_meet
      case rel => exact ⟨⟨true, rfl, ⟨fun h => by (cases h), fun h => absurd h.1 (by rw [bl_size]; exact h70)⟩⟩, rfl⟩
  case rest =>
    obtain ⟨⟨b, rfl, hb⟩, rfl⟩ := hcut
    cases b with
    | true =>
      have HRD := Lib.hid (pre_no HWS.out (fun h => by have := hb.out.2 h.1; cases this))
      have S3 := Lib.hid (OS3.mk HB3.out HK2.out)
      clear hb HB3 HK2 HL8
      have K2 := S3.out.out
      have a0 := K2.cell 0
      have a1 := K2.cell 1
      have a2 := K2.cell 2
      have a3 := K2.cell 3
      have a4 := K2.cell 4
      simp only [List.getElem?_cons_zero, List.getElem?_cons_succ] at a0 a1 a2 a3 a4
      have fa0 := K2.frozen 0
      have fa1 := K2.frozen 1
      have fa2 := K2.frozen 2
      have fa3 := K2.frozen 3
      have fa4 := K2.frozen 4

      obtain ⟨W20, hW20⟩ : ∃ W20, (((((w3.setCell ⟨w.heap.size, 0, none⟩ (.int .i64 0)).setCell ⟨w.heap.size, 1, none⟩ (.int .i64 0)).setCell ⟨w.heap.size, 2, none⟩ (.int .i64 0)).setCell ⟨w.heap.size, 3, none⟩ (.int .i64 0)).setCell ⟨w.heap.size, 4, none⟩ (.int .i64 0)) = W20 := ⟨_, rfl⟩
      have gw : w3.grownBy (((((w3.setCell ⟨w.heap.size, 0, none⟩ (.int .i64 0)).setCell ⟨w.heap.size, 1, none⟩ (.int .i64 0)).setCell ⟨w.heap.size, 2, none⟩ (.int .i64 0)).setCell ⟨w.heap.size, 3, none⟩ (.int .i64 0)).setCell ⟨w.heap.size, 4, none⟩ (.int .i64 0)) (some w.heap.size) := (grown_set (g := w.heap.size) (i := 4) (u := .int .i64 0) (grown_set (g := w.heap.size) (i := 3) (u := .int .i64 0) (grown_set (g := w.heap.size) (i := 2) (u := .int .i64 0) (grown_set (g := w.heap.size) (i := 1) (u := .int .i64 0) (grown_set (g := w.heap.size) (i := 0) (u := .int .i64 0) (World.grownBy.refl _ _))))))
      have kw : Lies (((((w3.setCell ⟨w.heap.size, 0, none⟩ (.int .i64 0)).setCell ⟨w.heap.size, 1, none⟩ (.int .i64 0)).setCell ⟨w.heap.size, 2, none⟩ (.int .i64 0)).setCell ⟨w.heap.size, 3, none⟩ (.int .i64 0)).setCell ⟨w.heap.size, 4, none⟩ (.int .i64 0)) w.heap.size 23 [.int .i64 0, .int .i64 0, .int .i64 0, .int .i64 0, .int .i64 0] := K2.set 0 (.int .i64 0) |>.set 1 (.int .i64 0) |>.set 2 (.int .i64 0) |>.set 3 (.int .i64 0) |>.set 4 (.int .i64 0)
      have BB := Lib.hid (bel_grow S3.out.bl gw (Nat.le_refl _) (Nat.le_refl _))
      rw [hW20] at kw BB
      have HW20 := Lib.hid hW20
      have HK := Lib.hid kw
      clear gw kw hW20 K2 S3
      repeat (first | go_values | go_skip | go_guarded | go_step | go_upon | simp only [])
      rw [HW20.out]
      have LS := HK.out
      have x0 := LS.cell 0
      have x1 := LS.cell 1
      have x2 := LS.cell 2
      have x3 := LS.cell 3
      have x4 := LS.cell 4
      simp only [List.getElem?_cons_zero, List.getElem?_cons_succ] at x0 x1 x2 x3 x4
      refine bodyPost_ret (v := .tuple #[.agg #[.int .i64 0, .int .i64 0, .int .i64 0, .int .i64 0, .int .i64 0], .bool false]) (by simp [results, Tryd.results4, go_sem, x0, x1, x2, x3, x4]) rfl ?_
      exact ⟨zrow, false, rfl, HRD.out, BB.out⟩
    | false =>
      have hpre := hb.out.1 rfl
      have h57 := hpre.2.1
      have H57 := Lib.hid h57
      have h5l : 5 ≤ ws.length := by omega
      have HP0 := Lib.hid hpre.2.2.1
      have HP1 := Lib.hid hpre.2.2.2.1
      have HP2 := Lib.hid hpre.2.2.2.2
      have HPRE := Lib.hid hpre
      have h70 : s.size ≤ 70 := by rw [← bl_size]; exact hpre.1
      clear hb h57 hpre
      have j0 : (0 : Int) < (ws.length : Int) := by omega
      have j1 : (1 : Int) < (ws.length : Int) := by omega
      have j2 : (2 : Int) < (ws.length : Int) := by omega
      have j4 : (4 : Int) < (ws.length : Int) := by omega
      have L8 := HL8.out
      have ct4 : w3.cell? ⟨g8, 4, none⟩ = some (.string ⟨(ws[4]'(by omega)).toArray⟩) := by
        rw [L8.cell]; exact texts_at2 ws _ _ (by omega)
      have ht := Hws.out (ws[4]'(by omega)) (List.getElem_mem _)
      obtain ⟨t4, hte⟩ : ∃ t : ByteArray, t = ⟨(ws[4]'(by omega)).toArray⟩ := ⟨_, rfl⟩
      have hbt4 : bl t4 = ws.getD 4 [] := by rw [hte, bl_mk, getD_at]
      rw [← hte] at ct4
      have hzt4 : t4.size ≤ 2000000 := by rw [← bl_size, hbt4, getD_at (by omega)]; exact ht
      clear hte ht
      clear L8
      have hz4 : t4.size ≤ 70 := by
        have h1 := parts_mem (b := 32) (t := bl t4) (bl s) [] (by
          have h2 : bl t4 ∈ splitL 32 (bl s) := by rw [HWS.out, hbt4, getD_at (by omega)]; exact List.getElem_mem _
          exact h2)
        rw [bl_size, bl_size] at h1; simp at h1; omega
      have HCE := Lib.hid (fun W => l31Cents_any t4 W hz4)
      obtain ⟨ce, hce⟩ : ∃ z, centS (bl t4) = z := ⟨_, rfl⟩
      rw [hce] at HCE
      have HVC : Hid (centS (ws.getD 4 []) = ce) := by rw [← hbt4]; exact hce
      clear hce hbt4
      go_wp2_with fail
      refine (HCE.out _).mono ?_
      rintro e w4 ⟨rfl, hb4⟩
      have ha := (Below.refl w4.heap.size w4).alloc (Nat.le_refl _) (.cells #[.int .i64 0, .int .i64 0, .int .i64 0, .int .i64 ce, .int .i64 0] 23)
      have K6 := Lies.new w4 23 #[.int .i64 0, .int .i64 0, .int .i64 0, .int .i64 ce, .int .i64 0]
      have S5 := Lib.hid (OS2.mk (bthen (bthen HB3.out hb4) ha) ((HK2.out.below hb4 HK2.out.lt).below ha (HK2.out.below hb4 HK2.out.lt).lt) ((HL8.out.below hb4 HL8.out.lt).below ha (HL8.out.below hb4 HL8.out.lt).lt) K6 (HK2.out.below hb4 HK2.out.lt).lt (HL8.out.below hb4 HL8.out.lt).lt)
      clear hb4 ha K6 HB3 HK2 HL8 HCE ct4
      go_upto_region 6 with fail
      generalize w4.alloc (.cells #[.int .i64 0, .int .i64 0, .int .i64 0, .int .i64 ce, .int .i64 0] 23) = w5 at S5 ⊢
      generalize w4.heap.size = g6 at S5 ⊢
      -- the month
      have L8 := S5.out.ws
      have ct0 : w5.cell? ⟨g8, 0, none⟩ = some (.string ⟨(ws[0]'(by omega)).toArray⟩) := by
        rw [L8.cell]; exact texts_at2 ws _ _ (by omega)
      have ht := Hws.out (ws[0]'(by omega)) (List.getElem_mem _)
      obtain ⟨t0, hte⟩ : ∃ t : ByteArray, t = ⟨(ws[0]'(by omega)).toArray⟩ := ⟨_, rfl⟩
      have hbt0 : bl t0 = ws.getD 0 [] := by rw [hte, bl_mk, getD_at]
      rw [← hte] at ct0
      have hzt0 : t0.size ≤ 2000000 := by rw [← bl_size, hbt0, getD_at (by omega)]; exact ht
      clear hte ht
      clear L8
      have k3 : 3 ≤ t0.size := by have := HP0.out; rw [← hbt0, bl_size] at this; exact this
      have kw : IntKind.i64.wrap ((t0.size : Int) - 1) = ((t0.size - 1 : Nat) : Int) := by rw [IntWalk.i64_in _ (by omega)]; omega
      have k1 : (1 : Int) ≤ ((t0.size - 1 : Nat) : Int) := by omega
      have k2 : ((t0.size - 1 : Nat) : Int) ≤ (t0.size : Int) := by omega
      obtain ⟨tm, htm⟩ : ∃ x, t0.extract 1 (t0.size - 1) = x := ⟨_, rfl⟩
      have hbtm : bl tm = ((ws.getD 0 []).take ((ws.getD 0 []).length - 1)).drop 1 := by rw [← htm, bl_extract, ← hbt0, bl_size]
      have hztm : tm.size ≤ 2000000 := by rw [← bl_size, hbtm, List.length_drop, List.length_take, ← hbt0, bl_size]; omega
      have HRM := Lib.hid (fun W => l1Read_any tm W (by omega))
      obtain ⟨m, hm⟩ : ∃ z, (numF (bl tm)).getD 0 = z := ⟨_, rfl⟩
      obtain ⟨one, h1⟩ : ∃ z, (numF (bl tm)).isSome = z := ⟨_, rfl⟩
      have HVM : Hid (numD (((ws.getD 0 []).take ((ws.getD 0 []).length - 1)).drop 1) = m) := by rw [← hbtm]; exact hm
      clear hbtm hbt0
      have n0 : 0 < ws.length := by omega
      refine wp_region_factsR (Sw 14 (fun W9 => Below w5.heap.size w5 W9) (fun W9 => w5.grownBy W9 (some g6) ∧ Lies W9 g6 23 [.int .i64 m, .int .i64 0, .int .i64 0, .int .i64 ce, .int .i64 0])) (fun i w1 w2 => i ∉ [14] → Below w1.heap.size w1 w2) (by kernel_rfl) (by kernel_rfl) (by kernel_rfl) (Sw.start (Below.refl _ _).drew) ?_
      simp only [fillOps, Act.put, List.setIfInBounds_toArray, List.set_cons_zero, List.set_cons_succ, Nat.zero_add, Nat.reduceAdd]
      apply wpFactsR_val
      case h1 =>
        intro vs L9 w9 hG9 hC9 hB K9 hK9
        replace hC9 := hC9.before hG9 (by kernel_rfl)
        simp only [Act.put, List.setIfInBounds_toArray, List.set_cons_zero, List.set_cons_succ] at hK9
        go_simp
        exact hK9 _ _ rfl (Sw.stay hG9 (by kernel_rfl) (by decide) hC9) (fun _ => Below.refl _ _)
      apply wpFactsR_val
      case h1 =>
        intro vs L9 w9 hG9 hC9 hB K9 hK9
        replace hC9 := hC9.before hG9 (by kernel_rfl)
        have d0 := FactN.eq (hB 0 _ (by kernel_rfl) (by kernel_rfl) rfl (by decide))
        simp only [d0] at hK9 ⊢
        simp only [Act.put, List.setIfInBounds_toArray, List.set_cons_zero, List.set_cons_succ] at hK9
        go_simp
        exact hK9 _ _ rfl (Sw.stay hG9 (by kernel_rfl) (by decide) hC9) (fun _ => Below.refl _ _)
      apply wpFactsR_val
      case h1 =>
        intro vs L9 w9 hG9 hC9 hB K9 hK9
        replace hC9 := hC9.before hG9 (by kernel_rfl)
        have d1 := FactN.eq (hB 1 _ (by kernel_rfl) (by kernel_rfl) rfl (by decide))
        simp only [d1] at hK9 ⊢
        have q0 : w9.cell? ⟨g8, 0, none⟩ = some (.string t0) := (hC9.cell (cell_lt ct0)).trans ct0
        simp only [Act.put, List.setIfInBounds_toArray, List.set_cons_zero, List.set_cons_succ] at hK9
        go_simp
        exact hK9 _ _ rfl (Sw.stay hG9 (by kernel_rfl) (by decide) hC9) (fun _ => Below.refl _ _)
      apply wpFactsR_val
      case h1 =>
        intro vs L9 w9 hG9 hC9 hB K9 hK9
        replace hC9 := hC9.before hG9 (by kernel_rfl)
        simp only [Act.put, List.setIfInBounds_toArray, List.set_cons_zero, List.set_cons_succ] at hK9
        go_simp
        exact hK9 _ _ rfl (Sw.stay hG9 (by kernel_rfl) (by decide) hC9) (fun _ => Below.refl _ _)
      apply wpFactsR_val
      case h1 =>
        intro vs L9 w9 hG9 hC9 hB K9 hK9
        replace hC9 := hC9.before hG9 (by kernel_rfl)
        have d3 := FactN.eq (hB 3 _ (by kernel_rfl) (by kernel_rfl) rfl (by decide))
        simp only [d3] at hK9 ⊢
        simp only [Act.put, List.setIfInBounds_toArray, List.set_cons_zero, List.set_cons_succ] at hK9
        go_simp
        exact hK9 _ _ rfl (Sw.stay hG9 (by kernel_rfl) (by decide) hC9) (fun _ => Below.refl _ _)
      apply wpFactsR_val
      case h1 =>
        intro vs L9 w9 hG9 hC9 hB K9 hK9
        replace hC9 := hC9.before hG9 (by kernel_rfl)
        have d4 := FactN.eq (hB 4 _ (by kernel_rfl) (by kernel_rfl) rfl (by decide))
        simp only [d4] at hK9 ⊢
        have q0 : w9.cell? ⟨g8, 0, none⟩ = some (.string t0) := (hC9.cell (cell_lt ct0)).trans ct0
        simp only [Act.put, List.setIfInBounds_toArray, List.set_cons_zero, List.set_cons_succ] at hK9
        go_simp
        exact hK9 _ _ rfl (Sw.stay hG9 (by kernel_rfl) (by decide) hC9) (fun _ => Below.refl _ _)
      apply wpFactsR_val
      case h1 =>
        intro vs L9 w9 hG9 hC9 hB K9 hK9
        replace hC9 := hC9.before hG9 (by kernel_rfl)
        have d5 := FactN.eq (hB 5 _ (by kernel_rfl) (by kernel_rfl) rfl (by decide))
        simp only [d5] at hK9 ⊢
        simp only [Act.put, List.setIfInBounds_toArray, List.set_cons_zero, List.set_cons_succ] at hK9
        go_simp
        exact hK9 _ _ rfl (Sw.stay hG9 (by kernel_rfl) (by decide) hC9) (fun _ => Below.refl _ _)
      apply wpFactsR_val
      case h1 =>
        intro vs L9 w9 hG9 hC9 hB K9 hK9
        replace hC9 := hC9.before hG9 (by kernel_rfl)
        have d6 := FactN.eq (hB 6 _ (by kernel_rfl) (by kernel_rfl) rfl (by decide))
        simp only [d6] at hK9 ⊢
        simp only [Act.put, List.setIfInBounds_toArray, List.set_cons_zero, List.set_cons_succ] at hK9
        go_simp
        exact hK9 _ _ rfl (Sw.stay hG9 (by kernel_rfl) (by decide) hC9) (fun _ => Below.refl _ _)
      refine wpFactsR_val (.string tm) (fun vs L9 w9 hG9 hC9 hB K9 hK9 => ?_) ?_
      next =>
        replace hC9 := hC9.before hG9 (by kernel_rfl)
        have d2 := FactN.eq (hB 2 _ (by kernel_rfl) (by kernel_rfl) rfl (by decide))
        have d7 := FactN.eq (hB 7 _ (by kernel_rfl) (by kernel_rfl) rfl (by decide))
        simp only [d2, d7] at hK9 ⊢
        go_simp
        exact hK9 _ _ rfl (Sw.stay hG9 (by kernel_rfl) (by decide) hC9) (fun _ => Below.refl _ _)
      refine wpFactsR_val (.tuple #[.int .i64 m, .bool one]) (fun vs L9 w9 hG9 hC9 hB K9 hK9 => ?_) ?_
      next =>
        replace hC9 := hC9.before hG9 (by kernel_rfl)
        have d8 := FactN.eq (hB 8 _ (by kernel_rfl) (by kernel_rfl) rfl (by decide))
        simp only [d8] at hK9 ⊢
        go_simp
        refine (HRM.out w9).mono ?_
        rintro en w8 ⟨rfl, hb8⟩
        rw [hm, h1]
        exact hK9 _ _ rfl (Sw.stay hG9 (by kernel_rfl) (by decide) (bthen hC9 hb8)) (fun _ => hb8)
      apply wpFactsR_val
      case h1 =>
        intro vs L9 w9 hG9 hC9 hB K9 hK9
        replace hC9 := hC9.before hG9 (by kernel_rfl)
        have d9 := FactN.eq (hB 9 _ (by kernel_rfl) (by kernel_rfl) rfl (by decide))
        simp only [d9] at hK9 ⊢
        simp only [Act.put, List.setIfInBounds_toArray, List.set_cons_zero, List.set_cons_succ] at hK9
        go_simp
        exact hK9 _ _ rfl (Sw.stay hG9 (by kernel_rfl) (by decide) hC9) (fun _ => Below.refl _ _)
      apply wpFactsR_val
      case h1 =>
        intro vs L9 w9 hG9 hC9 hB K9 hK9
        replace hC9 := hC9.before hG9 (by kernel_rfl)
        have d10 := FactN.eq (hB 10 _ (by kernel_rfl) (by kernel_rfl) rfl (by decide))
        simp only [d10] at hK9 ⊢
        simp only [Act.put, List.setIfInBounds_toArray, List.set_cons_zero, List.set_cons_succ] at hK9
        go_simp
        exact hK9 _ _ rfl (Sw.stay hG9 (by kernel_rfl) (by decide) hC9) (fun _ => Below.refl _ _)
      apply wpFactsR_val
      case h1 =>
        intro vs L9 w9 hG9 hC9 hB K9 hK9
        have d10 := FactN.eq (hB 10 _ (by kernel_rfl) (by kernel_rfl) rfl (by decide))
        simp only [d10] at hK9 ⊢
        simp only [Act.put, List.setIfInBounds_toArray, List.set_cons_zero, List.set_cons_succ] at hK9
        have HC9 := Lib.hid hC9
        clear hC9
        go_simp
        exact hK9 _ _ rfl (Sw.both (by decide) (fun h => h) (fun h => h) HC9.out) (fun _ => Below.refl _ _)
      apply wpFactsR_val
      case h1 =>
        intro vs L9 w9 hG9 hC9 hB K9 hK9
        replace hC9 := hC9.before hG9 (by kernel_rfl)
        simp only [Act.put, List.setIfInBounds_toArray, List.set_cons_zero, List.set_cons_succ] at hK9
        go_simp
        exact hK9 _ _ rfl (Sw.stay hG9 (by kernel_rfl) (by decide) hC9) (fun _ => Below.refl _ _)
      refine wpFactsR_val (undef) (fun vs L9 w9 hG9 hC9 hB K9 hK9 => ?_) ?_
      next =>
        replace hC9 := hC9.here hG9
        have d11 := FactN.eq (hB 11 _ (by kernel_rfl) (by kernel_rfl) rfl (by decide))
        have d13 := FactN.eq (hB 13 _ (by kernel_rfl) (by kernel_rfl) rfl (by decide))
        simp only [d11, d13] at hK9 ⊢
        have K6 := S5.out.now.below hC9 S5.out.now.lt
        have y0 := K6.cell 0
        have y1 := K6.cell 1
        have y2 := K6.cell 2
        have y3 := K6.cell 3
        have y4 := K6.cell 4
        simp only [List.getElem?_cons_zero, List.getElem?_cons_succ] at y0 y1 y2 y3 y4
        have f0 := K6.frozen 0
        have f1 := K6.frozen 1
        have f2 := K6.frozen 2
        have f3 := K6.frozen 3
        have f4 := K6.frozen 4
        have hG8 := Lib.hid (grown_trans (grownB hC9 (some g6)) (grown_set (g := g6) (i := 0) (u := .int .i64 m) (World.grownBy.refl _ _)))
        have hN8 := Lib.hid (K6.set 0 (.int .i64 m))
        clear K6
        go_simp
        exact hK9 _ _ rfl (Sw.turn ⟨hG8.out, hN8.out⟩) (fun hq => (hq (by decide)).elim)
      refine wpFactsR_nil fun vs L9 w9 hL9 hC9 hB => ?_
      replace hC9 := hC9.done hL9 (by decide)
      obtain ⟨hG, LS⟩ := hC9
      have S6 := Lib.hid (S5.out.put (cs' := [.int .i64 m, .int .i64 0, .int .i64 0, .int .i64 ce, .int .i64 0]) hG LS)
      clear hB hL9 hG LS S5
      clear n0
      go_upto_region 7 with fail
      have L8 := S6.out.ws
      have ct1 : w9.cell? ⟨g8, 1, none⟩ = some (.string ⟨(ws[1]'(by omega)).toArray⟩) := by
        rw [L8.cell]; exact texts_at2 ws _ _ (by omega)
      have ht := Hws.out (ws[1]'(by omega)) (List.getElem_mem _)
      obtain ⟨t1, hte⟩ : ∃ t : ByteArray, t = ⟨(ws[1]'(by omega)).toArray⟩ := ⟨_, rfl⟩
      have hbt1 : bl t1 = ws.getD 1 [] := by rw [hte, bl_mk, getD_at]
      rw [← hte] at ct1
      have hzt1 : t1.size ≤ 2000000 := by rw [← bl_size, hbt1, getD_at (by omega)]; exact ht
      clear hte ht
      clear L8
      have k1 : (1 : Int) ≤ (t1.size : Int) := by have := HP1.out; rw [← hbt1, bl_size] at this; omega
      obtain ⟨ux, hux⟩ : ∃ x, t1.extract 1 t1.size = x := ⟨_, rfl⟩
      have hbux : bl ux = (ws.getD 1 []).drop 1 := by rw [← hux, bl_extract, List.take_of_length_le (by rw [bl_size]; exact Nat.le_refl _), hbt1]
      have hzux : ux.size ≤ 2000000 := by rw [← bl_size, hbux, List.length_drop, ← hbt1, bl_size]; omega
      have HR := Lib.hid (fun W => l1Read_any ux W (by omega))
      obtain ⟨bb, hbb⟩ : ∃ z, (numF (bl ux)).getD 0 = z := ⟨_, rfl⟩
      have HVbb : Hid (numD ((ws.getD 1 []).drop 1) = bb) := by rw [← hbux]; exact hbb
      clear hbux hbt1
      go_wp2_with fail
      refine (HR.out _).mono ?_
      rintro e w10 ⟨rfl, hb9⟩
      rw [hbb]
      have S70 := Lib.hid (S6.out.then hb9)
      clear hb9 HR hbb ct1 k1 hux S6
      have K := S70.out.now
      have d0 := K.cell 0
      have d1 := K.cell 1
      have d2 := K.cell 2
      have d3 := K.cell 3
      have d4 := K.cell 4
      simp only [List.getElem?_cons_zero, List.getElem?_cons_succ] at d0 d1 d2 d3 d4
      have fd0 := K.frozen 0
      have fd1 := K.frozen 1
      have fd2 := K.frozen 2
      have fd3 := K.frozen 3
      have fd4 := K.frozen 4
      have gw : w10.grownBy (w10.setCell ⟨g6, 1, none⟩ (.int .i64 bb)) (some g6) := grown_set (World.grownBy.refl _ _)
      have HS := Lib.hid (S70.out.put (cs' := [.int .i64 m, .int .i64 bb, .int .i64 0, .int .i64 ce, .int .i64 0]) gw (K.set 1 (.int .i64 bb)))
      clear gw K
      clear S70
      go_upto_region 8 with fail
      generalize w10.setCell ⟨g6, 1, none⟩ (.int .i64 bb) = w11 at HS ⊢
      have L8 := HS.out.ws
      have ct2 : w11.cell? ⟨g8, 2, none⟩ = some (.string ⟨(ws[2]'(by omega)).toArray⟩) := by
        rw [L8.cell]; exact texts_at2 ws _ _ (by omega)
      have ht := Hws.out (ws[2]'(by omega)) (List.getElem_mem _)
      obtain ⟨t2, hte⟩ : ∃ t : ByteArray, t = ⟨(ws[2]'(by omega)).toArray⟩ := ⟨_, rfl⟩
      have hbt2 : bl t2 = ws.getD 2 [] := by rw [hte, bl_mk, getD_at]
      rw [← hte] at ct2
      have hzt2 : t2.size ≤ 2000000 := by rw [← bl_size, hbt2, getD_at (by omega)]; exact ht
      clear hte ht
      clear L8
      have k1 : (1 : Int) ≤ (t2.size : Int) := by have := HP2.out; rw [← hbt2, bl_size] at this; omega
      obtain ⟨ux, hux⟩ : ∃ x, t2.extract 1 t2.size = x := ⟨_, rfl⟩
      have hbux : bl ux = (ws.getD 2 []).drop 1 := by rw [← hux, bl_extract, List.take_of_length_le (by rw [bl_size]; exact Nat.le_refl _), hbt2]
      have hzux : ux.size ≤ 2000000 := by rw [← bl_size, hbux, List.length_drop, ← hbt2, bl_size]; omega
      have HR := Lib.hid (fun W => l1Read_any ux W (by omega))
      obtain ⟨sv, hsv⟩ : ∃ z, (numF (bl ux)).getD 0 = z := ⟨_, rfl⟩
      have HVsv : Hid (numD ((ws.getD 2 []).drop 1) = sv) := by rw [← hbux]; exact hsv
      clear hbux hbt2
      go_wp2_with fail
      refine (HR.out _).mono ?_
      rintro e w12 ⟨rfl, hb9⟩
      rw [hsv]
      have S80 := Lib.hid (HS.out.then hb9)
      clear hb9 HR hsv ct2 k1 hux HS
      have K := S80.out.now
      have d0 := K.cell 0
      have d1 := K.cell 1
      have d2 := K.cell 2
      have d3 := K.cell 3
      have d4 := K.cell 4
      simp only [List.getElem?_cons_zero, List.getElem?_cons_succ] at d0 d1 d2 d3 d4
      have fd0 := K.frozen 0
      have fd1 := K.frozen 1
      have fd2 := K.frozen 2
      have fd3 := K.frozen 3
      have fd4 := K.frozen 4
      have gw : w12.grownBy (w12.setCell ⟨g6, 2, none⟩ (.int .i64 sv)) (some g6) := grown_set (World.grownBy.refl _ _)
      have HS2 := Lib.hid (S80.out.put (cs' := [.int .i64 m, .int .i64 bb, .int .i64 sv, .int .i64 ce, .int .i64 0]) gw (K.set 2 (.int .i64 sv)))
      clear gw K
      clear S80
      go_upto_region 9 with fail
      generalize w12.setCell ⟨g6, 2, none⟩ (.int .i64 sv) = w13 at HS2 ⊢
      go_cut [82] (fun s82 wx => (∃ b : Bool, s82 = .bool b ∧ Hid (b = decide (ws.length = 7))) ∧ w13 = wx)
      case first =>
        by_cases h7 : ws.length = 7
        · have e7 : ((ws.length : Int) == 7) = true := by simp; omega
          have H7 := Lib.hid h7
          clear h7
          go_wp2_with fail
          go_meet
          case rel => exact ⟨⟨true, rfl, by rw [Hid]; simp [H7.out]⟩, rfl⟩
        · have e7 : ((ws.length : Int) == 7) = false := by rw [beq_eq_false_iff_ne]; omega
          have H7 := Lib.hid h7
          clear h7
          go_wp2_with fail
          go_meet
          case rel => exact ⟨⟨false, rfl, by rw [Hid]; simp [H7.out]⟩, rfl⟩
      case rest =>
        obtain ⟨⟨b7, rfl, hb7⟩, rfl⟩ := hcut
        go_upto_if 82 with fail
        go_cut [] (fun wx => OS2 w wx g8 ws rest g6 [.int .i64 m, .int .i64 bb, .int .i64 sv, .int .i64 ce, .int .i64 (if ws.length = 7 then numD (ws.getD 5 []) else 0)])
        case first =>
          cases b7 with
          | true =>
            have h7 : ws.length = 7 := by simpa using hb7.out.symm
            have H7 := Lib.hid h7
            have j5 : (5 : Int) < (ws.length : Int) := by omega
            have L8 := HS2.out.ws
            have ct5 : w13.cell? ⟨g8, 5, none⟩ = some (.string ⟨(ws[5]'(by omega)).toArray⟩) := by
              rw [L8.cell]; exact texts_at2 ws _ _ (by omega)
            have ht := Hws.out (ws[5]'(by omega)) (List.getElem_mem _)
            obtain ⟨t5, hte⟩ : ∃ t : ByteArray, t = ⟨(ws[5]'(by omega)).toArray⟩ := ⟨_, rfl⟩
            have hbt5 : bl t5 = ws.getD 5 [] := by rw [hte, bl_mk, getD_at]
            rw [← hte] at ct5
            have hzt5 : t5.size ≤ 2000000 := by rw [← bl_size, hbt5, getD_at (by omega)]; exact ht
            clear hte ht
            clear L8
            have HRL := Lib.hid (fun W => l1Read_any t5 W (by omega))
            obtain ⟨lo, hlo⟩ : ∃ z, (numF (bl t5)).getD 0 = z := ⟨_, rfl⟩
            have HVL : Hid (numD (ws.getD 5 []) = lo) := by rw [← hbt5]; exact hlo
            clear h7 hb7 hbt5
            go_wp2_with fail
            refine (HRL.out _).mono ?_
            rintro e w14 ⟨rfl, hb14⟩
            rw [hlo]
            have HS4 := Lib.hid (HS2.out.then hb14)
            clear hb14 HRL hlo ct5 HS2
            have K := HS4.out.now
            have d0 := K.cell 0
            have d1 := K.cell 1
            have d2 := K.cell 2
            have d3 := K.cell 3
            have d4 := K.cell 4
            simp only [List.getElem?_cons_zero, List.getElem?_cons_succ] at d0 d1 d2 d3 d4
            have fd0 := K.frozen 0
            have fd1 := K.frozen 1
            have fd2 := K.frozen 2
            have fd3 := K.frozen 3
            have fd4 := K.frozen 4
            have gw : w14.grownBy (w14.setCell ⟨g6, 4, none⟩ (.int .i64 lo)) (some g6) := grown_set (World.grownBy.refl _ _)
            have HS5 := Lib.hid (HS4.out.put (cs' := [.int .i64 m, .int .i64 bb, .int .i64 sv, .int .i64 ce, .int .i64 lo]) gw (K.set 4 (.int .i64 lo)))
            clear gw K
            clear HS4
            go_wp2_with fail
            go_meet
            case rel => rw [if_pos H7.out, HVL.out]; exact HS5.out
          | false =>
            have H7 : Hid (¬ ws.length = 7) := by have := hb7.out.symm; simp only [decide_eq_false_iff_not] at this; exact this
            clear hb7
            go_wp2_with fail
            go_meet
            case rel => rw [if_neg H7.out]; exact HS2.out
        case rest =>
          clear HS2 hb7
          have S9 := Lib.hid hcut
          clear hcut
          generalize hlo : (if ws.length = 7 then numD (ws.getD 5 []) else 0) = lo at S9
          have HLO := Lib.hid hlo
          clear hlo
          obtain ⟨r, hr⟩ : ∃ r : Row, r = ⟨m, bb, sv, ce, lo⟩ := ⟨_, rfl⟩
          have HR : Hid (rowS ws = r) := by
            rw [hr]
            unfold rowS Hid
            rw [HVM.out, HVbb.out, HVsv.out, HVC.out, HLO.out]
          have K : Lies wc g6 23 [.int .i64 r.m, .int .i64 r.b, .int .i64 r.s, .int .i64 r.c, .int .i64 r.l] := by rw [hr]; exact S9.out.now
          clear hr HLO HVM HVbb HVsv HVC
          have d0 := K.cell 0
          have d1 := K.cell 1
          have d2 := K.cell 2
          have d3 := K.cell 3
          have d4 := K.cell 4
          simp only [List.getElem?_cons_zero, List.getElem?_cons_succ] at d0 d1 d2 d3 d4
          have HK := Lib.hid K
          clear K
          have HIS := Lib.hid (fun W => l31One_any r W)
          have HLN := Lib.hid (fun W (h : r.ok = true) => l31Line_any r W h)
          obtain ⟨tx, htx⟩ : ∃ x : ByteArray, x = lineO r := ⟨_, rfl⟩
          have hbtx : bl tx = lineT r := by rw [htx]; exact bl_mk _
          rw [← htx] at HLN
          clear htx
          obtain ⟨q, hq⟩ : ∃ b : Bool, (tx.toList == s.toList) = b := ⟨_, rfl⟩
          have HQ : Hid (q = decide (lineT r = bl s)) := by rw [Hid, ← hq, str_beqL, hbtx]
          obtain ⟨ro, hro⟩ : ∃ b : Bool, r.ok = b := ⟨_, rfl⟩
          rw [hro] at HIS
          have HRO := Lib.hid hro
          have HPQ : Hid (((rowS ws).ok = true ∧ lineT (rowS ws) = bl s) ↔ (ro = true ∧ q = true)) := by
            rw [Hid, HR.out, HRO.out, HQ.out]; simp
          clear hro hbtx HQ
          go_upto_region 11 with fail
          go_cut [99] (fun s99 wx => (∃ b : Bool, s99 = .bool b ∧ Hid (b = false ↔ ((rowS ws).ok = true ∧ lineT (rowS ws) = bl s))) ∧ Below wc.heap.size wc wx)
          case first =>
            cases ro with
            | false =>
              clear hq
              go_wp2_with fail
              refine (HIS.out _).mono ?_
              rintro e w15 ⟨rfl, hb15⟩
              go_wp2_with fail
              go_meet
              case rel => exact ⟨⟨true, rfl, by rw [Hid, HPQ.out]; simp⟩, hb15⟩
            | true =>
              go_wp2_with fail
              refine (HIS.out _).mono ?_
              rintro e w15 ⟨rfl, hb15⟩
              have K := HK.out.below hb15 HK.out.lt
              clear d0 d1 d2 d3 d4
              have d0 := K.cell 0
              have d1 := K.cell 1
              have d2 := K.cell 2
              have d3 := K.cell 3
              have d4 := K.cell 4
              simp only [List.getElem?_cons_zero, List.getElem?_cons_succ] at d0 d1 d2 d3 d4
              go_wp2_with fail
              refine (HLN.out _ HRO.out).mono ?_
              rintro e w16 ⟨rfl, hb16⟩
              have HB16 := Lib.hid (bthen hb15 hb16)
              clear hb15 hb16 K d0 d1 d2 d3 d4
              cases q with
              | false =>
                go_wp2_with fail
                go_meet
                case rel => exact ⟨⟨true, rfl, by rw [Hid, HPQ.out]; simp⟩, HB16.out⟩
              | true =>
                go_wp2_with fail
                go_meet
                case rel => exact ⟨⟨false, rfl, by rw [Hid, HPQ.out]; simp⟩, HB16.out⟩
          case rest =>
            obtain ⟨⟨b, rfl, hbp⟩, hb17⟩ := hcut
            have S17 := Lib.hid (OS3.mk (bthen S9.out.bl hb17) (S9.out.out.below hb17 S9.out.out.lt))
            have K := HK.out.below hb17 HK.out.lt
            clear S9 HK d0 d1 d2 d3 d4 hb17 HIS HLN HPQ hq
            cases b with
            | true =>
              have HRD := Lib.hid (pre_no HWS.out (fun h => by have := hbp.out.2 h.2; cases this))
              clear hbp K
              have K2 := S17.out.out
              have a0 := K2.cell 0
              have a1 := K2.cell 1
              have a2 := K2.cell 2
              have a3 := K2.cell 3
              have a4 := K2.cell 4
              simp only [List.getElem?_cons_zero, List.getElem?_cons_succ] at a0 a1 a2 a3 a4
              have fa0 := K2.frozen 0
              have fa1 := K2.frozen 1
              have fa2 := K2.frozen 2
              have fa3 := K2.frozen 3
              have fa4 := K2.frozen 4

              obtain ⟨W20, hW20⟩ : ∃ W20, (((((wc.setCell ⟨w.heap.size, 0, none⟩ (.int .i64 0)).setCell ⟨w.heap.size, 1, none⟩ (.int .i64 0)).setCell ⟨w.heap.size, 2, none⟩ (.int .i64 0)).setCell ⟨w.heap.size, 3, none⟩ (.int .i64 0)).setCell ⟨w.heap.size, 4, none⟩ (.int .i64 0)) = W20 := ⟨_, rfl⟩
              have gw : wc.grownBy (((((wc.setCell ⟨w.heap.size, 0, none⟩ (.int .i64 0)).setCell ⟨w.heap.size, 1, none⟩ (.int .i64 0)).setCell ⟨w.heap.size, 2, none⟩ (.int .i64 0)).setCell ⟨w.heap.size, 3, none⟩ (.int .i64 0)).setCell ⟨w.heap.size, 4, none⟩ (.int .i64 0)) (some w.heap.size) := (grown_set (g := w.heap.size) (i := 4) (u := .int .i64 0) (grown_set (g := w.heap.size) (i := 3) (u := .int .i64 0) (grown_set (g := w.heap.size) (i := 2) (u := .int .i64 0) (grown_set (g := w.heap.size) (i := 1) (u := .int .i64 0) (grown_set (g := w.heap.size) (i := 0) (u := .int .i64 0) (World.grownBy.refl _ _))))))
              have kw : Lies (((((wc.setCell ⟨w.heap.size, 0, none⟩ (.int .i64 0)).setCell ⟨w.heap.size, 1, none⟩ (.int .i64 0)).setCell ⟨w.heap.size, 2, none⟩ (.int .i64 0)).setCell ⟨w.heap.size, 3, none⟩ (.int .i64 0)).setCell ⟨w.heap.size, 4, none⟩ (.int .i64 0)) w.heap.size 23 [.int .i64 0, .int .i64 0, .int .i64 0, .int .i64 0, .int .i64 0] := K2.set 0 (.int .i64 0) |>.set 1 (.int .i64 0) |>.set 2 (.int .i64 0) |>.set 3 (.int .i64 0) |>.set 4 (.int .i64 0)
              have BB := Lib.hid (bel_grow S17.out.bl gw (Nat.le_refl _) (Nat.le_refl _))
              rw [hW20] at kw BB
              have HW20 := Lib.hid hW20
              have HK := Lib.hid kw
              clear gw kw hW20 K2 S17
              repeat (first | go_values | go_skip | go_guarded | go_step | go_upon | simp only [])
              rw [HW20.out]
              have LS := HK.out
              have x0 := LS.cell 0
              have x1 := LS.cell 1
              have x2 := LS.cell 2
              have x3 := LS.cell 3
              have x4 := LS.cell 4
              simp only [List.getElem?_cons_zero, List.getElem?_cons_succ] at x0 x1 x2 x3 x4
              refine bodyPost_ret (v := .tuple #[.agg #[.int .i64 0, .int .i64 0, .int .i64 0, .int .i64 0, .int .i64 0], .bool false]) (by simp [results, Tryd.results4, go_sem, x0, x1, x2, x3, x4]) rfl ?_
              exact ⟨zrow, false, rfl, HRD.out, BB.out⟩
            | false =>
              have HRD : Hid (lineR (bl s) = (r, true)) := by rw [← HR.out]; exact pre_yes (hbp.out.1 rfl)
              clear hbp
              have d0 := K.cell 0
              have d1 := K.cell 1
              have d2 := K.cell 2
              have d3 := K.cell 3
              have d4 := K.cell 4
              simp only [List.getElem?_cons_zero, List.getElem?_cons_succ] at d0 d1 d2 d3 d4
              have K2 := S17.out.out
              have a0 := K2.cell 0
              have a1 := K2.cell 1
              have a2 := K2.cell 2
              have a3 := K2.cell 3
              have a4 := K2.cell 4
              simp only [List.getElem?_cons_zero, List.getElem?_cons_succ] at a0 a1 a2 a3 a4
              have fa0 := K2.frozen 0
              have fa1 := K2.frozen 1
              have fa2 := K2.frozen 2
              have fa3 := K2.frozen 3
              have fa4 := K2.frozen 4

              obtain ⟨W20, hW20⟩ : ∃ W20, (((((wc.setCell ⟨w.heap.size, 0, none⟩ (.int .i64 r.m)).setCell ⟨w.heap.size, 1, none⟩ (.int .i64 r.b)).setCell ⟨w.heap.size, 2, none⟩ (.int .i64 r.s)).setCell ⟨w.heap.size, 3, none⟩ (.int .i64 r.c)).setCell ⟨w.heap.size, 4, none⟩ (.int .i64 r.l)) = W20 := ⟨_, rfl⟩
              have gw : wc.grownBy (((((wc.setCell ⟨w.heap.size, 0, none⟩ (.int .i64 r.m)).setCell ⟨w.heap.size, 1, none⟩ (.int .i64 r.b)).setCell ⟨w.heap.size, 2, none⟩ (.int .i64 r.s)).setCell ⟨w.heap.size, 3, none⟩ (.int .i64 r.c)).setCell ⟨w.heap.size, 4, none⟩ (.int .i64 r.l)) (some w.heap.size) := (grown_set (g := w.heap.size) (i := 4) (u := .int .i64 r.l) (grown_set (g := w.heap.size) (i := 3) (u := .int .i64 r.c) (grown_set (g := w.heap.size) (i := 2) (u := .int .i64 r.s) (grown_set (g := w.heap.size) (i := 1) (u := .int .i64 r.b) (grown_set (g := w.heap.size) (i := 0) (u := .int .i64 r.m) (World.grownBy.refl _ _))))))
              have kw : Lies (((((wc.setCell ⟨w.heap.size, 0, none⟩ (.int .i64 r.m)).setCell ⟨w.heap.size, 1, none⟩ (.int .i64 r.b)).setCell ⟨w.heap.size, 2, none⟩ (.int .i64 r.s)).setCell ⟨w.heap.size, 3, none⟩ (.int .i64 r.c)).setCell ⟨w.heap.size, 4, none⟩ (.int .i64 r.l)) w.heap.size 23 [.int .i64 r.m, .int .i64 r.b, .int .i64 r.s, .int .i64 r.c, .int .i64 r.l] := K2.set 0 (.int .i64 r.m) |>.set 1 (.int .i64 r.b) |>.set 2 (.int .i64 r.s) |>.set 3 (.int .i64 r.c) |>.set 4 (.int .i64 r.l)
              have BB := Lib.hid (bel_grow S17.out.bl gw (Nat.le_refl _) (Nat.le_refl _))
              rw [hW20] at kw BB
              have HW20 := Lib.hid hW20
              have HK := Lib.hid kw
              clear gw kw hW20 K2 S17
              repeat (first | go_values | go_skip | go_guarded | go_step | go_upon | simp only [])
              rw [HW20.out]
              have LS := HK.out
              have x0 := LS.cell 0
              have x1 := LS.cell 1
              have x2 := LS.cell 2
              have x3 := LS.cell 3
              have x4 := LS.cell 4
              simp only [List.getElem?_cons_zero, List.getElem?_cons_succ] at x0 x1 x2 x3 x4
              refine bodyPost_ret (v := .tuple #[.agg #[.int .i64 r.m, .int .i64 r.b, .int .i64 r.s, .int .i64 r.c, .int .i64 r.l], .bool true]) (by simp [results, Tryd.results4, go_sem, x0, x1, x2, x3, x4]) rfl ?_
              exact ⟨r, true, rfl, HRD.out, BB.out⟩
end Go.Proofs.YtpjfidmapnnbkaaDoor

/- The law on ParseOffice. (Printed by gen_lawpo.py) -/
namespace Go.Proofs.YtpjfidmapnnbkaaDoor
open Go.RowKit

set_option maxRecDepth 100000 in
set_option maxHeartbeats 4000000 in
set_option linter.unusedVariables false in
theorem lawParseOffice_any (s : ByteArray) (w : World) (_hz : s.size ≤ 9223372036854775807) (hL : LW w) :
    Calls Tryd.prog 3 #[.string s] w fun e w' => e = .returned (.bool true) ∧ Below w.heap.size w w' := by
  by_cases hbig : 1048576 < s.size
  · have hi : (1048576 : Int) < (s.size : Int) := by omega
    go_enter Tryd.func3, Tryd.ntmps3
    go_wp2_with fail
    go_ret
    exact ⟨rfl, Below.refl _ _⟩
  · have hi : ¬ (1048576 : Int) < (s.size : Int) := by omega
    have hs : s.size ≤ 2000000 := by omega
    clear hbig
    have HSP := Lib.hid (fun W => specParseOffice_any s W hs)
    have HIP := Lib.hid (fun W (h : LW W) => implParseOffice_any s W hs h)
    go_enter Tryd.func3, Tryd.ntmps3
    go_wp2_with fail
    refine (HSP.out _).mono ?_
    rintro e w1 ⟨x, okx, rfl, hx, b1⟩
    have ha1 := (Below.refl w1.heap.size w1).alloc (Nat.le_refl _) (.cells #[.int .i64 x.m, .int .i64 x.b, .int .i64 x.s, .int .i64 x.c, .int .i64 x.l] 23)
    have K3 := Lies.new w1 23 #[.int .i64 x.m, .int .i64 x.b, .int .i64 x.s, .int .i64 x.c, .int .i64 x.l]
    have bb1 := bthen b1 ha1
    have hlw1 := Lib.hid (hL.then bb1)
    have HB1 := Lib.hid bb1
    have HX := Lib.hid hx
    clear ha1 b1 bb1 hx
    go_upto_region 4 with fail
    generalize w1.alloc (.cells #[.int .i64 x.m, .int .i64 x.b, .int .i64 x.s, .int .i64 x.c, .int .i64 x.l] 23) = W1 at K3 hlw1 HB1 ⊢
    generalize w1.heap.size = g3 at K3 ⊢
    go_wp2_with fail
    refine (HIP.out _ hlw1.out).mono ?_
    rintro e w2 ⟨y, oky, rfl, hy, b2⟩
    have hyx : y = x ∧ oky = okx := by have h0 := HX.out; rw [hy] at h0; injection h0 with h1 h2; exact ⟨h1, h2⟩
    obtain ⟨rfl, rfl⟩ := hyx
    have ha2 := (Below.refl w2.heap.size w2).alloc (Nat.le_refl _) (.cells #[.int .i64 y.m, .int .i64 y.b, .int .i64 y.s, .int .i64 y.c, .int .i64 y.l] 23)
    have K5 := Lies.new w2 23 #[.int .i64 y.m, .int .i64 y.b, .int .i64 y.s, .int .i64 y.c, .int .i64 y.l]
    have B12 := bthen b2 ha2
    have K3 := K3.below B12 K3.lt
    have HB2 := Lib.hid (bthen HB1.out B12)
    have e1 : (oky != oky) = false := by simp
    clear hy ha2 b2 B12 HB1 hlw1
    go_upto_region 5 with fail
    generalize w2.alloc (.cells #[.int .i64 y.m, .int .i64 y.b, .int .i64 y.s, .int .i64 y.c, .int .i64 y.l] 23) = W2 at K5 K3 HB2 ⊢
    generalize w2.heap.size = g5 at K5 ⊢
    have c0 := K3.cell 0
    have c1 := K3.cell 1
    have c2 := K3.cell 2
    have c3 := K3.cell 3
    have c4 := K3.cell 4
    simp only [List.getElem?_cons_zero, List.getElem?_cons_succ] at c0 c1 c2 c3 c4
    have d0 := K5.cell 0
    have d1 := K5.cell 1
    have d2 := K5.cell 2
    have d3 := K5.cell 3
    have d4 := K5.cell 4
    simp only [List.getElem?_cons_zero, List.getElem?_cons_succ] at d0 d1 d2 d3 d4
    clear K3 K5
    go_wp2_with fail
    refine (eqRow_any y y W2).mono ?_
    rintro e w3 ⟨rfl, b3⟩
    rw [decide_eq_true (rfl : y = y)]
    have HEND := Lib.hid (bthen HB2.out b3)
    clear b3 HB2 c0 c1 c2 c3 c4 d0 d1 d2 d3 d4
    go_wp2_with fail
    go_ret
    exact ⟨rfl, HEND.out⟩
end Go.Proofs.YtpjfidmapnnbkaaDoor

/- Arguments that came in: from the reader's own reading to plain words (no program in sight). -/
namespace Go.Proofs.YtpjfidmapnnbkaaDoor
open Go.ChangeShapes Go.WideShapes Go.ChangeAt Go.RowKit Go.Deep

section
variable {H : Type} {enc : TypeId × Value → H} {P : Program} {w : World} {base : Nat} {spare : Nat → Bool} {held : Bool}

/-- The fields of a struct of one-cell fields: place by place. -/
theorem trod_fields {e : TypeId} {fs : Array Field} {n : Nat} {cs : List Value} {x : DataW H × List MemPlace} (he : P.underlying e = some (.struct fs)) (hone : oneCellFields P fs = true) (hC : P.cellsOf e = fs.size)
    (h : DataW.trod enc P w base spare held n e cs = some x) :
    cs.length = fs.size ∧ ∀ (j : Nat) (f : Field), fs[j]? = some f → ∃ v m y, cs[j]? = some v ∧ DataW.trod enc P w base spare held m f.type [v] = some y := by
  obtain ⟨ys, n', _, _, hlen, hyl, hf⟩ := DataW.trod_struct he h
  refine ⟨by rw [hlen, hC], fun j f hj => ?_⟩
  obtain ⟨ho, hk⟩ := hone_of hone j f hj
  have hjl : j < fs.size := (Array.getElem?_eq_some_iff.1 hj).1
  have hjc : j < cs.length := by rw [hlen, hC]; exact hjl
  have h1 := hf j f hj
  rw [ho, hk, List.drop_eq_getElem_cons hjc] at h1
  have hys : ys[j]? = some (ys[j]'(by omega)) := List.getElem?_eq_getElem (by omega)
  exact ⟨_, n', _, List.getElem?_eq_getElem hjc, h1.trans hys⟩

theorem cell_spot {w : World} {a : Addr} {u : Value} (h : w.cell? a = some u) : ∃ b off, a = ⟨b, off, none⟩ ∧ b < w.heap.size := by
  obtain ⟨b, off, sp⟩ := a
  cases sp with
  | none => exact ⟨b, off, rfl, block_lt_of_cell h⟩
  | some s =>
    simp only [World.cell?] at h
    split at h <;> simp_all

/-- A slice that came in, whatever its elements: k cells each; what the reader knows of an element's cells. -/
theorem trod_slc {t e : TypeId} {k n : Nat} {v : Value} {x : DataW H × List MemPlace} (ht : P.underlying t = some (.slice e)) (hk : P.cellsOf e = k) (hk0 : 0 < k)
    (h : DataW.trod enc P w base spare held n t [v] = some x) :
    ∃ A len cap, v = .slice A len cap ∧ ∃ css : List (List Value), css.length = len ∧ SlcR w w.heap.size k A len css.flatten ∧
      ∀ cs ∈ css, cs.length = k ∧ ∃ m y, DataW.trod enc P w base spare held m e cs = some y := by
  rcases open_slice ht h with ⟨h0, _⟩ | ⟨a, len, cap, m, n', D, Pl, hcs, hb, hl, hm, hmm, hx, hi⟩
  · have : v = .slice none 0 0 := by simpa using h0
    exact ⟨none, 0, 0, this, [], rfl, SlcR.nil _ _ _ _, by simp⟩
  · have hv : v = .slice (some a) len cap := by simpa using hcs
    have hle : len ≤ m := by rw [hmm]; split <;> omega
    rw [hk] at hi
    have hsel : ∀ i : Nat, ∃ cs : List Value, cs.length = k ∧ (i < len → (∀ j u, cs[j]? = some u → w.cell? ((a.add (i * k)).add j) = some u) ∧ ∃ m y, DataW.trod enc P w base spare held m e cs = some y) := fun i => by
      by_cases hlt : i < len
      · obtain ⟨cs', hc, ht'⟩ := hi i (by omega)
        obtain ⟨_, hcl, hat⟩ := World.cells?_some hc
        exact ⟨cs', hcl, fun _ => ⟨fun j u hu => by
          have hj : j < cs'.length := (List.getElem?_eq_some_iff.1 hu).1
          rw [hat j (by omega), hu], _, _, ht'⟩⟩
      · exact ⟨List.replicate k undef, by simp, fun h => absurd h hlt⟩
    obtain ⟨f, hf⟩ := Classical.axiomOfChoice hsel
    have hfk : ∀ i, (f i).length = k := fun i => (hf i).1
    have hlen := flat_len f k hfk (List.range len)
    rw [List.length_range, List.flatMap_def] at hlen
    refine ⟨some a, len, cap, hv, (List.range len).map f, by simp, ⟨hlen, by unfold maxLen at hm; omega, fun hpos => ?_⟩, ?_⟩
    · have h00 : (f 0)[0]? = some ((f 0)[0]'(by rw [hfk]; exact hk0)) := List.getElem?_eq_getElem _
      have hc0 := ((hf 0).2 hpos).1 0 _ h00
      rw [Nat.zero_mul] at hc0
      obtain ⟨b, off, rfl, hb'⟩ := cell_spot (a := a) hc0
      refine ⟨b, off, rfl, hb', fun j u hu => ?_⟩
      have hj : j < len * k := by rw [← hlen]; exact (List.getElem?_eq_some_iff.1 hu).1
      have hi' : j / k < len := Nat.div_lt_of_lt_mul (by rw [Nat.mul_comm]; exact hj)
      have hr : j % k < k := Nat.mod_lt _ hk0
      have e : j = j / k * k + j % k := by rw [Nat.mul_comm]; exact (Nat.div_add_mod j k).symm
      have hat := flat_at f k hfk (List.range len) (j / k) (by simpa using hi') (j % k) hr
      rw [List.flatMap_def, ← e, List.getElem_range, hu] at hat
      have hc := ((hf (j / k)).2 hi').1 (j % k) u hat.symm
      have hadd : ((⟨b, off, none⟩ : Addr).add (j / k * k)).add (j % k) = ⟨b, off + j, none⟩ := by
        unfold Addr.add
        by_cases h1 : j / k * k = 0 <;> by_cases h2 : j % k = 0 <;> simp [h1, h2] <;> omega
      rw [hadd] at hc
      exact hc
    · intro cs hcs
      obtain ⟨i, hi, rfl⟩ := List.mem_map.1 hcs
      exact ⟨hfk i, ((hf i).2 (List.mem_range.1 hi)).2⟩
end

/-- A list of lists of cells, each the image of something. -/
theorem lift_list {α : Type} (enc : α → List Value) : ∀ css : List (List Value), (∀ cs ∈ css, ∃ x, cs = enc x) → ∃ l : List α, css.flatten = l.flatMap enc ∧ l.length = css.length
  | [], _ => ⟨[], rfl, rfl⟩
  | cs :: css, h => by
    obtain ⟨x, hx⟩ := h cs (by simp)
    obtain ⟨l, hl, hn⟩ := lift_list enc css (fun c hc => h c (by simp [hc]))
    exact ⟨x :: l, by simp [hl, hx], by simp [hn]⟩

section
variable {H : Type} {enc : TypeId × Value → H} {P : Program} {w : World} {base : Nat} {spare : Nat → Bool} {held : Bool}
/-- A field that is an int. -/
theorem trod_i64 {t : TypeId} {n : Nat} {v : Value} {x : DataW H × List MemPlace} (ht : P.underlying t = some (.int .i64)) (h : DataW.trod enc P w base spare held n t [v] = some x) :
    ∃ m : Int, v = .int .i64 m ∧ -9223372036854775808 ≤ m ∧ m ≤ 9223372036854775807 := by
  obtain ⟨m, e, _, hw⟩ := DataW.trod_int ht h
  refine ⟨m, by simpa using e, ?_⟩
  simp [Lit.wf, IntKind.min, IntKind.max, IntKind.signed, IntKind.bits] at hw
  omega
end

/-- Structs of ints alone. -/
def intFields (P : Program) (fs : Array Field) : Bool := fs.all fun f => match P.underlying f.type with | some (.int .i64) => true | _ => false
theorem intFields_at {P : Program} {fs : Array Field} (h : intFields P fs = true) (j : Nat) (f : Field) (hj : fs[j]? = some f) : P.underlying f.type = some (.int .i64) := by
  have := (Array.all_eq_true_iff_forall_mem.1 h) f (Array.mem_of_getElem? hj)
  split at this
  · assumption
  · cases this

section
variable {H : Type} {enc : TypeId × Value → H} {P : Program} {w : World} {base : Nat} {spare : Nat → Bool} {held : Bool}
theorem trod_int_cells {e : TypeId} {fs : Array Field} {n k : Nat} {cs : List Value} {x : DataW H × List MemPlace} (he : P.underlying e = some (.struct fs)) (hone : oneCellFields P fs = true) (hC : P.cellsOf e = fs.size) (hint : intFields P fs = true) (hk : fs.size = k)
    (h : DataW.trod enc P w base spare held n e cs = some x) : ∃ ns : List Int, ns.length = k ∧ cs = ns.map (Value.int .i64) := by
  obtain ⟨hl, hf⟩ := trod_fields he hone hC h
  subst hk
  refine ⟨cs.map fun v => match v with | .int _ m => m | _ => 0, by simpa using hl, List.ext_getElem? fun j => ?_⟩
  rw [List.getElem?_map, List.getElem?_map]
  by_cases hj : j < cs.length
  · obtain ⟨v, m, y, hv, hy⟩ := hf j (fs[j]'(by omega)) (Array.getElem?_eq_getElem (by omega))
    obtain ⟨z, rfl, _, _⟩ := trod_i64 (intFields_at hint j _ (Array.getElem?_eq_getElem (by omega))) hy
    rw [hv]; rfl
  · rw [List.getElem?_eq_none (by omega)]; rfl

/-- A struct of ints, by value. -/
theorem open_int_struct {t : TypeId} {fs : Array Field} {k b0 : Nat} {r : Reach} {v : Value} {d : DataW H} {p : List MemPlace} (he : P.underlying t = some (.struct fs)) (hone : oneCellFields P fs = true) (hC : P.cellsOf t = fs.size) (hint : intFields P fs = true) (hk : fs.size = k)
    (hv : Value.okWide P w r b0 t v) (h : DataW.Trod enc P w base spare held t v d p) : ∃ ns : List Int, ns.length = k ∧ v = .agg (ns.map (Value.int .i64)).toArray := by
  obtain ⟨cs, rfl, hsz⟩ := okWide_struct he hv
  obtain ⟨n, hn⟩ := h
  obtain ⟨ns, hl, hc⟩ := trod_int_cells he hone hC hint hk hn
  refine ⟨ns, hl, ?_⟩
  rw [← hc]; simp [Value.cells]

/-- A slice of structs of ints. -/
theorem open_int_structs {α : Type} (en : α → List Value) {t e : TypeId} {fs : Array Field} {k b0 : Nat} {r : Reach} {v : Value} {d : DataW H} {p : List MemPlace} (ht : P.underlying t = some (.slice e)) (he : P.underlying e = some (.struct fs)) (hone : oneCellFields P fs = true) (hC : P.cellsOf e = fs.size) (hint : intFields P fs = true) (hk : fs.size = k) (hk0 : 0 < k)
    (hen : ∀ ns : List Int, ns.length = k → ∃ x, ns.map (Value.int .i64) = en x)
    (hv : Value.okWide P w r b0 t v) (h : DataW.Trod enc P w base spare held t v d p) : ∃ A c, ∃ l : List α, v = .slice A l.length c ∧ SlcR w w.heap.size k A l.length (l.flatMap en) := by
  obtain ⟨A, len, cap, rfl⟩ := okWide_slice ht hv
  obtain ⟨n, hn⟩ := h
  obtain ⟨A', len', cap', e', css, hl, hS, hcs⟩ := trod_slc ht (hC.trans hk) hk0 hn
  injection e' with e1 e2 e3
  subst e1; subst e2; subst e3
  obtain ⟨l, hfl, hll⟩ := lift_list en css (fun cs hc => by
    obtain ⟨hlen, m, y, hy⟩ := hcs cs hc
    obtain ⟨ns, hn', hc'⟩ := trod_int_cells he hone hC hint hk hy
    obtain ⟨x, hx⟩ := hen ns hn'
    exact ⟨x, by rw [hc', hx]⟩)
  refine ⟨A, cap, l, by rw [hll, hl], ?_⟩
  rw [hll, hl, ← hfl]; exact hS
end
theorem i64_lo {n : Int} (h : (Lit.int .i64 n).wf = true) : -9223372036854775808 ≤ n := by
  simp [Lit.wf, IntKind.min, IntKind.max, IntKind.signed, IntKind.bits] at h; omega
theorem i64_hi {n : Int} (h : (Lit.int .i64 n).wf = true) : n ≤ 9223372036854775807 := by
  simp [Lit.wf, IntKind.min, IntKind.max, IntKind.signed, IntKind.bits] at h; omega
end Go.Proofs.YtpjfidmapnnbkaaDoor

/- Texts and flags that came in. -/
namespace Go.Proofs.YtpjfidmapnnbkaaDoor
open Go.ChangeShapes Go.WideShapes Go.ChangeAt Go.RowKit Go.Deep
section
variable {H : Type} {enc : TypeId × Value → H} {w : World} {base : Nat} {spare : Nat → Bool} {held : Bool}
theorem open_text_of {P : Program} {t : TypeId} {b0 : Nat} {r : Reach} {v : Value} {d : DataW H} {q : List MemPlace} (ht : P.underlying t = some .string) (hv : Value.okWide P w r b0 t v) (h : DataW.Trod enc P w base spare held t v d q) :
    ∃ s : ByteArray, v = .string s ∧ s.size ≤ 9223372036854775807 := by
  obtain ⟨s, rfl⟩ := okWide_string ht hv
  obtain ⟨n, hn⟩ := h
  obtain ⟨s', e, _, hs⟩ := DataW.trod_string ht hn
  simp [Value.cells] at e
  subst e
  exact ⟨s, rfl, by unfold maxLen at hs; exact hs⟩
theorem open_flag_of {P : Program} {t : TypeId} {b0 : Nat} {r : Reach} {v : Value} {d : DataW H} {q : List MemPlace} (ht : P.underlying t = some .bool) (hv : Value.okWide P w r b0 t v) (_ : DataW.Trod enc P w base spare held t v d q) :
    ∃ b : Bool, v = .bool b := by
  obtain ⟨b, rfl⟩ := okWide_bool ht hv
  exact ⟨b, rfl⟩
set_option maxRecDepth 20000 in
theorem open_text {b0 : Nat} {r : Reach} {v : Value} {d : DataW H} {q : List MemPlace} (hv : Value.okWide Tryd.prog w r b0 9 v) (h : DataW.Trod enc Tryd.prog w base spare held 9 v d q) :
    ∃ s : ByteArray, v = .string s ∧ s.size ≤ 9223372036854775807 := open_text_of Tryd.underlying9 hv h
set_option maxRecDepth 20000 in
theorem open_flag {b0 : Nat} {r : Reach} {v : Value} {d : DataW H} {q : List MemPlace} (hv : Value.okWide Tryd.prog w r b0 4 v) (h : DataW.Trod enc Tryd.prog w base spare held 4 v d q) :
    ∃ b : Bool, v = .bool b := open_flag_of Tryd.underlying4 hv h
end
end Go.Proofs.YtpjfidmapnnbkaaDoor
