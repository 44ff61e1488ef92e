/- Lg04: the texts LogS Open RecTo LgTo Crash DrawRec Enc FactsT Append, joined into one file. -/
import Derived.ProofKit
import Derived.ChangeOld
import Derived.ShutString
import Derived.OpenShut
import Derived.Deep.Slices
import Derived.Deep.Fields
import Derived.Laws.IdiomStrings
import Derived.Laws.OwnMore
import Derived.Test.YtojceibamgodbaaDoorLg01
import Derived.Test.YtojceibamgodbaaDoorLg02
import Derived.Test.YtojceibamgodbaaDoorLg03

set_option linter.unusedVariables false

/- Whether a log is valid, in the reference. -/
namespace Go.Proofs.YtojceibamgodbaaDoor
open Go.RowKit

set_option maxRecDepth 100000 in
set_option maxHeartbeats 4000000 in
theorem l33Log_any (l : Lg) (w : World) (hs : l.D.size + l.P.size ≤ 2000000) :
    Calls Tryd.prog 47 #[l.val] w fun e w' => e = .returned (.bool l.ok) ∧ Below w.heap.size w w' := by
  have b1 := (Below.refl w.heap.size w).alloc (Nat.le_refl _) (.cells #[.string l.D, .string l.P, .int .i64 l.n] 36)
  have L1 := Lies.new w 36 #[.string l.D, .string l.P, .int .i64 l.n]
  have hbl : bl (l.D ++ l.P) = bl l.D ++ bl l.P := bl_app _ _
  have hz : (l.D ++ l.P).size = l.D.size + l.P.size := size_app _ _
  have hok := @logOk_iff (bl l.D) (bl l.P) l.n
  rw [← hbl] at hok
  rw [bl_size, bl_size] at hok
  by_cases hbig : 30000 < l.D.size + l.P.size
  · have HOK : Hid (l.ok = false) := by
      unfold Hid Lg.ok
      rw [Bool.eq_false_iff]
      intro h
      have h1 := logOk_small (by rw [← hbl, bl_size, bl_size]; exact (hok.1 h).1)
      rw [bl_size, bl_size] at h1; omega
    have d0 : decide (30000 < (l.D.size : Int) + (l.P.size : Int)) = true := decide_eq_true (by omega)
    clear hok hbig
    go_enter Tryd.func47, Tryd.ntmps47
    go_wp2_with fail
    go_ret
    exact ⟨by rw [HOK.out]; rfl, b1⟩
  · have d0 : decide (30000 < (l.D.size : Int) + (l.P.size : Int)) = false := decide_eq_false (by omega)
    have hs3 : l.D.size + l.P.size ≤ 30000 := by omega
    have HA := Lib.hid (fun W => l33Open_any (l.D ++ l.P) W (by omega))
    have HB := Lib.hid (fun W => l33Open_any l.D W (by omega))
    have hlen := openF_length 60 0 (bl (l.D ++ l.P))
    have hroom := openF_room 60 0 (bl (l.D ++ l.P))
    have hroomD := openF_room 60 0 (bl l.D)
    rw [bl_size] at hroom hroomD
    obtain ⟨k0, hk0⟩ : ∃ k0, k0 = (openF 60 0 (bl (l.D ++ l.P))).length := ⟨_, rfl⟩
    obtain ⟨z, hzz⟩ : ∃ z, z = lens (openF 60 0 (bl (l.D ++ l.P))) := ⟨_, rfl⟩
    obtain ⟨y, hyy⟩ : ∃ y, y = lens (openF 60 0 (bl l.D)) := ⟨_, rfl⟩
    have HA2 : Hid (∀ W, Calls Tryd.prog 53 #[.string (l.D ++ l.P)] W fun e w' => ∃ A c k, k = k0 ∧ e = .returned (.tuple #[.slice A k c, .int .i64 (z : Nat)]) ∧ Below W.heap.size W w') := fun W => by
      refine (HA.out W).mono ?_
      rintro e w' ⟨A, c, m, rfl, hm, _, hb⟩
      exact ⟨A, c, m.length, by rw [recsOf_len hm, hk0], by rw [hzz], hb⟩
    have HB2 : Hid (∀ W, Calls Tryd.prog 53 #[.string l.D] W fun e w' => ∃ A c k, e = .returned (.tuple #[.slice A k c, .int .i64 (y : Nat)]) ∧ Below W.heap.size W w') := fun W => by
      refine (HB.out W).mono ?_
      rintro e w' ⟨A, c, m, rfl, hm, _, hb⟩
      exact ⟨A, c, m.length, by rw [hyy], hb⟩
    rw [← hk0, ← hzz, ← hyy] at hok
    rw [← hk0] at hlen
    rw [← hzz] at hroom
    rw [← hyy] at hroomD
    have HOK : Hid (l.ok = (decide (z = l.D.size + l.P.size) && decide (y = l.D.size) && decide ((k0 : Int) = l.n))) := by
      unfold Hid Lg.ok
      rw [Bool.eq_iff_iff, hok]
      simp [and_assoc]
    clear hok hbl hk0 hzz hyy HA HB hbig
    go_enter Tryd.func47, Tryd.ntmps47
    go_wp2_with fail
    generalize w.alloc (.cells #[.string l.D, .string l.P, .int .i64 l.n] 36) = W at b1 L1 ⊢
    generalize hg : w.heap.size = g at L1 ⊢
    refine (HA2.out _).mono ?_
    rintro e w2 ⟨A, c, k, rfl, rfl, hb2⟩
    have L2 := L1.below hb2 L1.lt
    have c0 := L2.cell 0
    have c1 := L2.cell 1
    have c2 := L2.cell 2
    simp only [List.getElem?_cons_zero, List.getElem?_cons_succ] at c0 c1 c2
    clear L1
    go_wp2_with fail
    refine (HB2.out _).mono ?_
    rintro e w3 ⟨A', c', k', rfl, hb3⟩
    have L3 := L2.below hb3 L2.lt
    clear c0 c1 c2
    have c0 := L3.cell 0
    have c1 := L3.cell 1
    have c2 := L3.cell 2
    simp only [List.getElem?_cons_zero, List.getElem?_cons_succ] at c0 c1 c2
    have hbb : Below w.heap.size w w3 := by rw [← hg] at *; exact bthen b1 (bthen hb2 hb3)
    clear L2 L3
    by_cases e1 : z = l.D.size + l.P.size
    · rw [decide_eq_true e1] at HOK
      have d1 : ((z : Int) == (l.D.size : Int) + (l.P.size : Int)) = true := by rw [e1]; simp
      by_cases e2 : y = l.D.size
      · rw [decide_eq_true e2] at HOK
        have d2 : ((y : Int) == (l.D.size : Int)) = true := by rw [e2]; simp
        by_cases e3 : (k : Int) = l.n
        · rw [decide_eq_true e3] at HOK
          have d3 : ((k : Int) == l.n) = true := by rw [e3]; simp
          clear e1 e2 e3
          go_wp2_with fail
          go_ret
          exact ⟨by rw [HOK.out]; rfl, hbb⟩
        · rw [decide_eq_false e3] at HOK
          have d3 : ((k : Int) == l.n) = false := by simp [e3]
          clear e1 e2 e3
          go_wp2_with fail
          go_ret
          exact ⟨by rw [HOK.out]; rfl, hbb⟩
      · rw [decide_eq_false e2] at HOK
        have d2 : ((y : Int) == (l.D.size : Int)) = false := by simp; omega
        clear e1 e2
        go_wp2_with fail
        go_ret
        exact ⟨by rw [HOK.out]; rfl, hbb⟩
    · rw [decide_eq_false e1] at HOK
      have d1 : ((z : Int) == (l.D.size : Int) + (l.P.size : Int)) = false := by simp; omega
      clear e1
      go_wp2_with fail
      go_ret
      exact ⟨by rw [HOK.out]; rfl, hbb⟩
end Go.Proofs.YtojceibamgodbaaDoor

/- Arguments that came in: from the reader's own reading to plain words (no program in sight). -/
namespace Go.Proofs.YtojceibamgodbaaDoor
open Go.ChangeShapes Go.WideShapes Go.ChangeAt Go.RowKit Go.Deep

section
variable {H : Type} {enc : TypeId × Value → H} {P : Program} {w : World} {base : Nat} {spare : Nat → Bool} {held : Bool}

/-- The fields of a struct of one-cell fields: place by place. -/
theorem trod_fields {e : TypeId} {fs : Array Field} {n : Nat} {cs : List Value} {x : DataW H × List MemPlace} (he : P.underlying e = some (.struct fs)) (hone : oneCellFields P fs = true) (hC : P.cellsOf e = fs.size)
    (h : DataW.trod enc P w base spare held n e cs = some x) :
    cs.length = fs.size ∧ ∀ (j : Nat) (f : Field), fs[j]? = some f → ∃ v m y, cs[j]? = some v ∧ DataW.trod enc P w base spare held m f.type [v] = some y := by
  obtain ⟨ys, n', _, _, hlen, hyl, hf⟩ := DataW.trod_struct he h
  refine ⟨by rw [hlen, hC], fun j f hj => ?_⟩
  obtain ⟨ho, hk⟩ := hone_of hone j f hj
  have hjl : j < fs.size := (Array.getElem?_eq_some_iff.1 hj).1
  have hjc : j < cs.length := by rw [hlen, hC]; exact hjl
  have h1 := hf j f hj
  rw [ho, hk, List.drop_eq_getElem_cons hjc] at h1
  have hys : ys[j]? = some (ys[j]'(by omega)) := List.getElem?_eq_getElem (by omega)
  exact ⟨_, n', _, List.getElem?_eq_getElem hjc, h1.trans hys⟩

theorem cell_spot {w : World} {a : Addr} {u : Value} (h : w.cell? a = some u) : ∃ b off, a = ⟨b, off, none⟩ ∧ b < w.heap.size := by
  obtain ⟨b, off, sp⟩ := a
  cases sp with
  | none => exact ⟨b, off, rfl, block_lt_of_cell h⟩
  | some s =>
    simp only [World.cell?] at h
    split at h <;> simp_all

/-- A slice that came in, whatever its elements: k cells each; what the reader knows of an element's cells. -/
theorem trod_slc {t e : TypeId} {k n : Nat} {v : Value} {x : DataW H × List MemPlace} (ht : P.underlying t = some (.slice e)) (hk : P.cellsOf e = k) (hk0 : 0 < k)
    (h : DataW.trod enc P w base spare held n t [v] = some x) :
    ∃ A len cap, v = .slice A len cap ∧ ∃ css : List (List Value), css.length = len ∧ SlcR w w.heap.size k A len css.flatten ∧
      ∀ cs ∈ css, cs.length = k ∧ ∃ m y, DataW.trod enc P w base spare held m e cs = some y := by
  rcases open_slice ht h with ⟨h0, _⟩ | ⟨a, len, cap, m, n', D, Pl, hcs, hb, hl, hm, hmm, hx, hi⟩
  · have : v = .slice none 0 0 := by simpa using h0
    exact ⟨none, 0, 0, this, [], rfl, SlcR.nil _ _ _ _, by simp⟩
  · have hv : v = .slice (some a) len cap := by simpa using hcs
    have hle : len ≤ m := by rw [hmm]; split <;> omega
    rw [hk] at hi
    have hsel : ∀ i : Nat, ∃ cs : List Value, cs.length = k ∧ (i < len → (∀ j u, cs[j]? = some u → w.cell? ((a.add (i * k)).add j) = some u) ∧ ∃ m y, DataW.trod enc P w base spare held m e cs = some y) := fun i => by
      by_cases hlt : i < len
      · obtain ⟨cs', hc, ht'⟩ := hi i (by omega)
        obtain ⟨_, hcl, hat⟩ := World.cells?_some hc
        exact ⟨cs', hcl, fun _ => ⟨fun j u hu => by
          have hj : j < cs'.length := (List.getElem?_eq_some_iff.1 hu).1
          rw [hat j (by omega), hu], _, _, ht'⟩⟩
      · exact ⟨List.replicate k undef, by simp, fun h => absurd h hlt⟩
    obtain ⟨f, hf⟩ := Classical.axiomOfChoice hsel
    have hfk : ∀ i, (f i).length = k := fun i => (hf i).1
    have hlen := flat_len f k hfk (List.range len)
    rw [List.length_range, List.flatMap_def] at hlen
    refine ⟨some a, len, cap, hv, (List.range len).map f, by simp, ⟨hlen, by unfold maxLen at hm; omega, fun hpos => ?_⟩, ?_⟩
    · have h00 : (f 0)[0]? = some ((f 0)[0]'(by rw [hfk]; exact hk0)) := List.getElem?_eq_getElem _
      have hc0 := ((hf 0).2 hpos).1 0 _ h00
      rw [Nat.zero_mul] at hc0
      obtain ⟨b, off, rfl, hb'⟩ := cell_spot (a := a) hc0
      refine ⟨b, off, rfl, hb', fun j u hu => ?_⟩
      have hj : j < len * k := by rw [← hlen]; exact (List.getElem?_eq_some_iff.1 hu).1
      have hi' : j / k < len := Nat.div_lt_of_lt_mul (by rw [Nat.mul_comm]; exact hj)
      have hr : j % k < k := Nat.mod_lt _ hk0
      have e : j = j / k * k + j % k := by rw [Nat.mul_comm]; exact (Nat.div_add_mod j k).symm
      have hat := flat_at f k hfk (List.range len) (j / k) (by simpa using hi') (j % k) hr
      rw [List.flatMap_def, ← e, List.getElem_range, hu] at hat
      have hc := ((hf (j / k)).2 hi').1 (j % k) u hat.symm
      have hadd : ((⟨b, off, none⟩ : Addr).add (j / k * k)).add (j % k) = ⟨b, off + j, none⟩ := by
        unfold Addr.add
        by_cases h1 : j / k * k = 0 <;> by_cases h2 : j % k = 0 <;> simp [h1, h2] <;> omega
      rw [hadd] at hc
      exact hc
    · intro cs hcs
      obtain ⟨i, hi, rfl⟩ := List.mem_map.1 hcs
      exact ⟨hfk i, ((hf i).2 (List.mem_range.1 hi)).2⟩
end

/-- A list of lists of cells, each the image of something. -/
theorem lift_list {α : Type} (enc : α → List Value) : ∀ css : List (List Value), (∀ cs ∈ css, ∃ x, cs = enc x) → ∃ l : List α, css.flatten = l.flatMap enc ∧ l.length = css.length
  | [], _ => ⟨[], rfl, rfl⟩
  | cs :: css, h => by
    obtain ⟨x, hx⟩ := h cs (by simp)
    obtain ⟨l, hl, hn⟩ := lift_list enc css (fun c hc => h c (by simp [hc]))
    exact ⟨x :: l, by simp [hl, hx], by simp [hn]⟩

section
variable {H : Type} {enc : TypeId × Value → H} {P : Program} {w : World} {base : Nat} {spare : Nat → Bool} {held : Bool}
/-- A field that is an int. -/
theorem trod_i64 {t : TypeId} {n : Nat} {v : Value} {x : DataW H × List MemPlace} (ht : P.underlying t = some (.int .i64)) (h : DataW.trod enc P w base spare held n t [v] = some x) :
    ∃ m : Int, v = .int .i64 m ∧ -9223372036854775808 ≤ m ∧ m ≤ 9223372036854775807 := by
  obtain ⟨m, e, _, hw⟩ := DataW.trod_int ht h
  refine ⟨m, by simpa using e, ?_⟩
  simp [Lit.wf, IntKind.min, IntKind.max, IntKind.signed, IntKind.bits] at hw
  omega
end

/-- Structs of ints alone. -/
def intFields (P : Program) (fs : Array Field) : Bool := fs.all fun f => match P.underlying f.type with | some (.int .i64) => true | _ => false
theorem intFields_at {P : Program} {fs : Array Field} (h : intFields P fs = true) (j : Nat) (f : Field) (hj : fs[j]? = some f) : P.underlying f.type = some (.int .i64) := by
  have := (Array.all_eq_true_iff_forall_mem.1 h) f (Array.mem_of_getElem? hj)
  split at this
  · assumption
  · cases this

section
variable {H : Type} {enc : TypeId × Value → H} {P : Program} {w : World} {base : Nat} {spare : Nat → Bool} {held : Bool}
theorem trod_int_cells {e : TypeId} {fs : Array Field} {n k : Nat} {cs : List Value} {x : DataW H × List MemPlace} (he : P.underlying e = some (.struct fs)) (hone : oneCellFields P fs = true) (hC : P.cellsOf e = fs.size) (hint : intFields P fs = true) (hk : fs.size = k)
    (h : DataW.trod enc P w base spare held n e cs = some x) : ∃ ns : List Int, ns.length = k ∧ cs = ns.map (Value.int .i64) := by
  obtain ⟨hl, hf⟩ := trod_fields he hone hC h
  subst hk
  refine ⟨cs.map fun v => match v with | .int _ m => m | _ => 0, by simpa using hl, List.ext_getElem? fun j => ?_⟩
  rw [List.getElem?_map, List.getElem?_map]
  by_cases hj : j < cs.length
  · obtain ⟨v, m, y, hv, hy⟩ := hf j (fs[j]'(by omega)) (Array.getElem?_eq_getElem (by omega))
    obtain ⟨z, rfl, _, _⟩ := trod_i64 (intFields_at hint j _ (Array.getElem?_eq_getElem (by omega))) hy
    rw [hv]; rfl
  · rw [List.getElem?_eq_none (by omega)]; rfl

/-- A struct of ints, by value. -/
theorem open_int_struct {t : TypeId} {fs : Array Field} {k b0 : Nat} {r : Reach} {v : Value} {d : DataW H} {p : List MemPlace} (he : P.underlying t = some (.struct fs)) (hone : oneCellFields P fs = true) (hC : P.cellsOf t = fs.size) (hint : intFields P fs = true) (hk : fs.size = k)
    (hv : Value.okWide P w r b0 t v) (h : DataW.Trod enc P w base spare held t v d p) : ∃ ns : List Int, ns.length = k ∧ v = .agg (ns.map (Value.int .i64)).toArray := by
  obtain ⟨cs, rfl, hsz⟩ := okWide_struct he hv
  obtain ⟨n, hn⟩ := h
  obtain ⟨ns, hl, hc⟩ := trod_int_cells he hone hC hint hk hn
  refine ⟨ns, hl, ?_⟩
  rw [← hc]; simp [Value.cells]

/-- A slice of structs of ints. -/
theorem open_int_structs {α : Type} (en : α → List Value) {t e : TypeId} {fs : Array Field} {k b0 : Nat} {r : Reach} {v : Value} {d : DataW H} {p : List MemPlace} (ht : P.underlying t = some (.slice e)) (he : P.underlying e = some (.struct fs)) (hone : oneCellFields P fs = true) (hC : P.cellsOf e = fs.size) (hint : intFields P fs = true) (hk : fs.size = k) (hk0 : 0 < k)
    (hen : ∀ ns : List Int, ns.length = k → ∃ x, ns.map (Value.int .i64) = en x)
    (hv : Value.okWide P w r b0 t v) (h : DataW.Trod enc P w base spare held t v d p) : ∃ A c, ∃ l : List α, v = .slice A l.length c ∧ SlcR w w.heap.size k A l.length (l.flatMap en) := by
  obtain ⟨A, len, cap, rfl⟩ := okWide_slice ht hv
  obtain ⟨n, hn⟩ := h
  obtain ⟨A', len', cap', e', css, hl, hS, hcs⟩ := trod_slc ht (hC.trans hk) hk0 hn
  injection e' with e1 e2 e3
  subst e1; subst e2; subst e3
  obtain ⟨l, hfl, hll⟩ := lift_list en css (fun cs hc => by
    obtain ⟨hlen, m, y, hy⟩ := hcs cs hc
    obtain ⟨ns, hn', hc'⟩ := trod_int_cells he hone hC hint hk hy
    obtain ⟨x, hx⟩ := hen ns hn'
    exact ⟨x, by rw [hc', hx]⟩)
  refine ⟨A, cap, l, by rw [hll, hl], ?_⟩
  rw [hll, hl, ← hfl]; exact hS
end
theorem i64_lo {n : Int} (h : (Lit.int .i64 n).wf = true) : -9223372036854775808 ≤ n := by
  simp [Lit.wf, IntKind.min, IntKind.max, IntKind.signed, IntKind.bits] at h; omega
theorem i64_hi {n : Int} (h : (Lit.int .i64 n).wf = true) : n ≤ 9223372036854775807 := by
  simp [Lit.wf, IntKind.min, IntKind.max, IntKind.signed, IntKind.bits] at h; omega
end Go.Proofs.YtojceibamgodbaaDoor

/- Records in the laws: size, copy; arguments that came in. -/
namespace Go.Proofs.YtojceibamgodbaaDoor
open Go.RowKit

def Rec.need (e : Rec) : Nat := e.c.size + e.r.size
def lessR (k : Int) (n : Nat) : Int := if (n : Int) ≤ k then k - n else -1
end Go.Proofs.YtojceibamgodbaaDoor

/- Logs in the laws: size, copy, likeness. -/
namespace Go.Proofs.YtojceibamgodbaaDoor
open Go.RowKit

def Lg.need (l : Lg) : Nat := l.D.size + l.P.size
theorem lessR_le {n : Nat} {k : Int} (h : (n : Int) ≤ k) : lessR k n = k - n := by unfold lessR; rw [if_pos h]
theorem lessR_gt {n : Nat} {k : Int} (h : ¬ (n : Int) ≤ k) : lessR k n = -1 := by unfold lessR; rw [if_neg h]

set_option maxHeartbeats 1000000 in
theorem szLog_any (l : Lg) (k : Int) (w : World) (h1 : l.D.size ≤ 9223372036854775807) (h2 : l.P.size ≤ 9223372036854775807) (hk : 0 ≤ k) (hk' : k ≤ 1048576) :
    Calls Tryd.prog 33 #[l.val, .int .i64 k] w fun en w' => en = .returned (.int .i64 (lessR k l.need)) ∧ Below w.heap.size w w' := by
  have hb0 := (Below.refl w.heap.size w).alloc (Nat.le_refl _) (.cells #[.string l.D, .string l.P, .int .i64 l.n] 27)
  by_cases ha : (l.D.size : Int) ≤ k
  · have d1 : decide (k - (l.D.size : Int) < 0) = false := decide_eq_false (by omega)
    by_cases hb : (l.D.size : Int) + l.P.size ≤ k
    · have d2 : decide (k - (l.D.size : Int) - (l.P.size : Int) < 0) = false := decide_eq_false (by omega)
      have HN : Hid (lessR k l.need = k - (l.D.size : Int) - (l.P.size : Int)) := by unfold lessR Lg.need Hid; rw [if_pos (by omega)]; omega
      clear hb
      go_enter Tryd.func33, Tryd.ntmps33
      go_wp2
      go_ret
      exact ⟨by rw [HN.out]; rfl, hb0⟩
    · have d2 : decide (k - (l.D.size : Int) - (l.P.size : Int) < 0) = true := decide_eq_true (by omega)
      have HN : Hid (lessR k l.need = -1) := by unfold lessR Lg.need Hid; rw [if_neg (by omega)]
      clear hb
      go_enter Tryd.func33, Tryd.ntmps33
      go_wp2
      go_ret
      exact ⟨by rw [HN.out]; rfl, hb0⟩
  · have d1 : decide (k - (l.D.size : Int) < 0) = true := decide_eq_true (by omega)
    have HN : Hid (lessR k l.need = -1) := by unfold lessR Lg.need Hid; rw [if_neg (by omega)]
    clear ha
    go_enter Tryd.func33, Tryd.ntmps33
    go_wp2
    go_ret
    exact ⟨by rw [HN.out]; rfl, hb0⟩

set_option maxHeartbeats 1000000 in
theorem toLog_any (l : Lg) (w : World) :
    Calls Tryd.prog 36 #[l.val] w fun en w' => en = .returned l.val ∧ Below w.heap.size w w' := by
  go_enter Tryd.func36, Tryd.ntmps36
  go_wp2
  refine bodyPost_ret (v := l.val) (by simp [results, Tryd.results36, go_sem, *]) rfl ⟨rfl, ?_⟩
  repeat (first | exact Below.refl _ _ | refine Below.alloc ?_ (by simp; try omega) _ | refine Below.setCell ?_ (by simp; try omega) _)

set_option maxHeartbeats 1000000 in
theorem eqLog_yes (l : Lg) (w : World) :
    Calls Tryd.prog 40 #[l.val, l.val] w fun en w' => en = .returned (.bool true) ∧ Below w.heap.size w w' := by
  have s0 : (l.D.toList != l.D.toList) = false := by simp
  have s1 : (l.P.toList != l.P.toList) = false := by simp
  have s2 : (l.n != l.n) = false := by simp
  go_enter Tryd.func40, Tryd.ntmps40
  go_wp2
  refine bodyPost_ret (v := .bool true) (by simp [results, Tryd.results40, go_sem, *]) rfl ⟨rfl, ?_⟩
  repeat (first | exact Below.refl _ _ | refine Below.alloc ?_ (by simp; try omega) _ | refine Below.setCell ?_ (by simp; try omega) _)

theorem specIsValidLog_any (l : Lg) (w : World) (hs : l.D.size + l.P.size ≤ 2000000) :
    Calls Tryd.prog 17 #[l.val] w fun en w' => en = .returned (.bool l.ok) ∧ Below w.heap.size w w' := by
  have b1 := (Below.refl w.heap.size w).alloc (Nat.le_refl _) (.cells #[.string l.D, .string l.P, .int .i64 l.n] 36)
  go_enter Tryd.func17, Tryd.ntmps17
  go_wp2_with fail
  refine (l33Log_any l _ hs).mono ?_
  rintro en w1 ⟨rfl, hb1⟩
  go_wp2
  go_ret
  exact ⟨rfl, bthen b1 hb1⟩
theorem implIsValidLog_any (l : Lg) (w : World) (hs : l.D.size + l.P.size ≤ 2000000) (ht : Tab w) :
    Calls Tryd.prog 16 #[l.val] w fun en w' => en = .returned (.bool l.ok) ∧ Below w.heap.size w w' := by
  have b1 := (Below.refl w.heap.size w).alloc (Nat.le_refl _) (.cells #[.string l.D, .string l.P, .int .i64 l.n] 36)
  have ht1 := ht.then b1
  go_enter Tryd.func16, Tryd.ntmps16
  go_wp2_with fail
  refine (isLog_any l _ hs ht1).mono ?_
  rintro en w1 ⟨rfl, hb1⟩
  go_wp2
  go_ret
  exact ⟨rfl, bthen b1 hb1⟩

end Go.Proofs.YtojceibamgodbaaDoor

/- CrashLog: both sides and the law. -/
namespace Go.Proofs.YtojceibamgodbaaDoor
open Go.RowKit

/-- What is left of pending bytes. -/
def crashL (p : List UInt8) (k : Nat) (torn : Bool) : List UInt8 := if torn = true ∧ 0 < k then (p.take k).set (k - 1) (255 - (p.take k).getD (k - 1) 0) else p.take k
noncomputable def crashOk (l : Lg) (k : Int) : Bool := l.ok && inR k 0 l.P.size
noncomputable def crashT (l : Lg) (k : Int) (torn : Bool) : ByteArray := if crashOk l k then l.D ++ ⟨(crashL (bl l.P) k.toNat torn).toArray⟩ else ⟨#[]⟩
theorem u8_flip (b : UInt8) : ((255 - b).toNat : Int) = 255 - (b.toNat : Int) := by
  have h := UInt8.toNat_lt b
  have h2 : b ≤ 255 := by rw [UInt8.le_iff_toNat_le]; exact Nat.le_of_lt_succ h
  have : (255 - b).toNat = 255 - b.toNat := UInt8.toNat_sub_of_le 255 b h2
  rw [this]; omega

theorem toBytes (x : ByteArray) (w : World) : ∃ W3 cap, (convert 9 42 (.string x)).run Tryd.prog w = .ok (.slice (some ⟨w.heap.size, 0, none⟩) x.size cap) W3 ∧ Below w.heap.size w W3 ∧
    (∀ j, j < x.size → W3.cell? ⟨w.heap.size, j, none⟩ = some (.int .u8 (((bl x).getD j 0).toNat : Int))) ∧ (∀ j, j < x.size → W3.frozen? ⟨w.heap.size, j, none⟩ = false) := by
  refine ⟨_, _, run_bytes_of_string w 9 42 5 x Tryd.underlying9 Tryd.underlying42 Tryd.underlying5, (Below.refl w.heap.size w).drew.alloc (by simp) _, fun j hj => ?_, fun j hj => ?_⟩
  · have h1 := World.cell?_alloc_mark w.drew (bytesRow x (grownCap w x.size 0 5)) 5 ((bytesRow x (grownCap w x.size 0 5)).size, (bytesRow x (grownCap w x.size 0 5)).size + 1) j
    have e : w.drew.heap.size = w.heap.size := by simp
    rw [e] at h1
    rw [h1, bytesRow_at x _ j hj, getD_of (by rw [bl_size]; exact hj)]
    rfl
  · have h1 := World.frozen?_alloc_mark w.drew (bytesRow x (grownCap w x.size 0 5)) 5 (bytesRow x (grownCap w x.size 0 5)).size ((bytesRow x (grownCap w x.size 0 5)).size + 1) j
    have e : w.drew.heap.size = w.heap.size := by simp
    rw [e] at h1
    rw [h1]
    have hz : x.size ≤ (bytesRow x (grownCap w x.size 0 5)).size := by unfold bytesRow; simp <;> (show x.data.size ≤ _; exact Nat.le_add_right _ _)
    simp; omega

theorem fromBytes {W : World} {g : Nat} {l : List UInt8} {cap : Nat} (h : ∀ j, j < l.length → W.cell? ⟨g, j, none⟩ = some (.int .u8 ((l.getD j 0).toNat : Int))) :
    (convert 42 9 (.slice (some ⟨g, 0, none⟩) l.length cap)).run Tryd.prog W = .ok (.string ⟨l.toArray⟩) W :=
  run_convert_bytes_back W 42 9 5 ⟨g, 0, none⟩ cap l Tryd.underlying42 Tryd.underlying5 Tryd.underlying9 (fun j hj => by
    have e : (⟨g, 0, none⟩ : Addr).add j = ⟨g, j, none⟩ := by unfold Addr.add; simp <;> exact fun h => h.symm
    rw [e, h j hj, getD_of hj])

set_option maxRecDepth 100000 in
set_option maxHeartbeats 4000000 in
theorem specCrash_any (l : Lg) (k : Int) (torn : Bool) (w : World) (hs : l.D.size + l.P.size ≤ 2000000) :
    Calls Tryd.prog 25 #[l.val, .int .i64 k, .bool torn] w fun e w' => e = .returned (.tuple #[.string (crashT l k torn), .bool (crashOk l k)]) ∧ Below w.heap.size w w' := by
  have b1 := (Below.refl w.heap.size w).alloc (Nat.le_refl _) (.cells #[.string l.D, .string l.P, .int .i64 l.n] 36)
  have L1 := Lies.new w 36 #[.string l.D, .string l.P, .int .i64 l.n]
  go_enter Tryd.func25, Tryd.ntmps25
  go_wp2_with fail
  generalize w.alloc (.cells #[.string l.D, .string l.P, .int .i64 l.n] 36) = W at b1 L1 ⊢
  generalize hg : w.heap.size = g at L1 ⊢
  refine (l33Log_any l _ hs).mono ?_
  rintro e w2 ⟨rfl, hb2⟩
  have L2 := L1.below hb2 L1.lt
  have c0 := L2.cell 0
  have c1 := L2.cell 1
  have c2 := L2.cell 2
  simp only [List.getElem?_cons_zero, List.getElem?_cons_succ] at c0 c1 c2
  have hbb : Below w.heap.size w w2 := by rw [← hg] at *; exact bthen b1 hb2
  have HCr := Lib.hid (show crashOk l k = (l.ok && inR k 0 l.P.size) from rfl)
  cases hok : l.ok
  · have HK : Hid (crashOk l k = false) := by rw [HCr.out, hok]; rfl
    have HT : Hid (crashT l k torn = ⟨#[]⟩) := by unfold crashT Hid; rw [HK.out]; rfl
    clear hok HCr L1 L2
    go_wp2_with fail
    go_ret2
    exact ⟨by rw [HK.out, HT.out] <;> rfl, hbb⟩
  · cases hr : inR k 0 l.P.size
    · have HK : Hid (crashOk l k = false) := by rw [HCr.out, hok, hr]; rfl
      have HT : Hid (crashT l k torn = ⟨#[]⟩) := by unfold crashT Hid; rw [HK.out]; rfl
      have HR := Lib.hid hr
      clear hok hr HCr L1 L2
      go_wp2_with (go_at_call 52; refine (l1In_any _ _ _ _).mono ?_; rw [HR.out]; rintro en w' ⟨rfl, rfl⟩)
      go_ret2
      exact ⟨by rw [HK.out, HT.out] <;> rfl, hbb⟩
    · have HK : Hid (crashOk l k = true) := by rw [HCr.out, hok, hr]; rfl
      have HT0 : Hid (crashT l k torn = l.D ++ ⟨(crashL (bl l.P) k.toNat torn).toArray⟩) := by unfold crashT Hid; rw [HK.out]; rfl
      have HR := Lib.hid hr
      rw [inR_iff] at hr
      obtain ⟨n, rfl⟩ := Int.eq_ofNat_of_zero_le hr.1
      have hn : n ≤ l.P.size := by omega
      rw [Int.toNat_natCast] at HT0
      have i1 : (n : Int) ≤ (l.P.size : Int) := by omega
      have hxs : (l.P.extract 0 n).size = n := by rw [← bl_size, bl_extract, List.drop_zero, List.length_take, bl_size]; omega
      obtain ⟨x, hx⟩ : ∃ x : ByteArray, x = l.P.extract 0 n := ⟨_, rfl⟩
      have hbx : bl x = (bl l.P).take n := by rw [hx, bl_extract, List.drop_zero]
      rw [← hx] at hxs
      obtain ⟨W3, cap, hconv0, hbW3, hcell, hfr⟩ := toBytes x w2
      rw [hx] at hconv0
      have hxs' : (l.P.extract 0 n).size = n := by rw [← hx]; exact hxs
      rw [hxs'] at hconv0
      have hgl : g < w2.heap.size := L2.lt
      have c0' := (L2.below hbW3 L2.lt).cell 0
      have c1' := (L2.below hbW3 L2.lt).cell 1
      simp only [List.getElem?_cons_zero, List.getElem?_cons_succ] at c0' c1'
      generalize hgx : w2.heap.size = gx at hconv0 hcell hfr hgl
      have hne : g ≠ gx := by omega
      by_cases hlast : torn = true ∧ 0 < n
      · obtain ⟨rfl, h0⟩ := hlast
        have hL : crashL (bl l.P) n true = (bl x).set (n - 1) (255 - (bl x).getD (n - 1) 0) := by unfold crashL; rw [if_pos ⟨rfl, h0⟩, hbx]
        have hlen : (bl x).length = n := by rw [bl_size, hxs]
        have d1 : decide (0 < (n : Int)) = true := decide_eq_true (by omega)
        obtain ⟨m, rfl⟩ : ∃ m, n = m + 1 := ⟨n - 1, by omega⟩
        have HR2 : Hid (inR ((m : Int) + 1) 0 l.P.size = true) := HR.out
        have d3 : decide (0 < m + 1) = true := by simp
        have j1 : (m : Int) + 1 ≤ (l.P.size : Int) := by omega
        have d2 : decide (0 < (m : Int) + 1) = true := decide_eq_true (by omega)
        have hc := hcell m (by omega)
        have hf := hfr m (by omega)
        obtain ⟨b, hb⟩ : ∃ b, b = (bl x).getD m 0 := ⟨_, rfl⟩
        rw [← hb] at hc
        have ub : (b.toNat : Int) ≤ 255 := by have := UInt8.toNat_lt b; omega
        have hback0 := fromBytes (W := W3.setCell ⟨gx, m, none⟩ (.int .u8 (255 - (b.toNat : Int)))) (g := gx) (l := (bl x).set m (255 - b)) (cap := cap) (fun j hj => by
          rw [List.length_set] at hj
          by_cases hjm : j = m
          · subst hjm
            rw [World.cell?_setCell_same _ _ _ hc]
            rw [getD_of (by rw [List.length_set]; omega), List.getElem_set_self, u8_flip]
          · rw [World.cell?_setCell_other _ _ _ _ (by intro hc9; injection hc9 with _ hc8 _; omega), hcell j (by omega), getD_of (by omega), getD_of (by rw [List.length_set]; omega), List.getElem_set_ne (Ne.symm hjm)])
        rw [List.length_set, hlen] at hback0
        have HT : Hid (crashT l ((m + 1 : Nat) : Int) true = l.D ++ ⟨((bl x).set m (255 - b)).toArray⟩) := by rw [Hid, HT0.out, hL, hb]; first | done | rfl
        have hyz : (⟨((bl x).set m (255 - b)).toArray⟩ : ByteArray).size = m + 1 := by rw [← bl_size, bl_mk, List.length_set, hlen]
        have hfin : Below w.heap.size w (W3.setCell ⟨gx, m, none⟩ (.int .u8 (255 - (b.toNat : Int)))) := (hbb.trans (hbW3.mono hbb.size)).setCell (p := ⟨gx, m, none⟩) (by simp only; have := hbb.size; omega) _
        generalize (⟨((bl x).set m (255 - b)).toArray⟩ : ByteArray) = y at HT hyz hback0
        clear hok hr HCr L1 L2 HT0 hL hlen hbx hcell hfr hb hx hxs
        go_wp2_with (go_at_call 52; refine (l1In_any _ _ _ _).mono ?_; first | rw [HR.out] | rw [HR2.out]; rintro en w' ⟨rfl, rfl⟩)
        go_ret2
        exact ⟨by rw [HK.out, HT.out] <;> rfl, hfin⟩
      · have hL : crashL (bl l.P) n torn = bl x := by unfold crashL; rw [if_neg hlast, hbx]
        have hlen : (bl x).length = n := by rw [bl_size, hxs]
        have hback0 := fromBytes (W := W3) (g := gx) (l := bl x) (cap := cap) (fun j hj => hcell j (by omega))
        rw [hlen] at hback0
        have HT : Hid (crashT l (n : Int) torn = l.D ++ ⟨(bl x).toArray⟩) := by rw [Hid, HT0.out, hL]
        have hyz : (⟨(bl x).toArray⟩ : ByteArray).size = n := by rw [← bl_size, bl_mk, hlen]
        have hfin : Below w.heap.size w W3 := hbb.trans (hbW3.mono hbb.size)
        generalize (⟨(bl x).toArray⟩ : ByteArray) = y at HT hyz hback0
        clear hL hlen hbx hcell hfr hx hxs hok hr HCr L1 L2 HT0
        cases torn
        · go_wp2_with (go_at_call 52; refine (l1In_any _ _ _ _).mono ?_; rw [HR.out]; rintro en w' ⟨rfl, rfl⟩)
          go_ret2
          exact ⟨by rw [HK.out, HT.out] <;> rfl, hfin⟩
        · have h0 : n = 0 := by
            rcases Nat.eq_zero_or_pos n with h | h
            · exact h
            · exact absurd ⟨rfl, h⟩ hlast
          have d1 : decide (0 < (n : Int)) = false := decide_eq_false (by omega)
          have d2 : decide (0 < n) = false := decide_eq_false (by omega)
          clear hlast h0
          go_wp2_with (go_at_call 52; refine (l1In_any _ _ _ _).mono ?_; rw [HR.out]; rintro en w' ⟨rfl, rfl⟩)
          go_ret2
          exact ⟨by rw [HK.out, HT.out] <;> rfl, hfin⟩

set_option maxRecDepth 100000 in
set_option maxHeartbeats 4000000 in
theorem implCrash_any (l : Lg) (k : Int) (torn : Bool) (w : World) (hs : l.D.size + l.P.size ≤ 2000000) (ht : Tab w) :
    Calls Tryd.prog 24 #[l.val, .int .i64 k, .bool torn] w fun e w' => e = .returned (.tuple #[.string (crashT l k torn), .bool (crashOk l k)]) ∧ Below w.heap.size w w' := by
  have b1 := (Below.refl w.heap.size w).alloc (Nat.le_refl _) (.cells #[.string l.D, .string l.P, .int .i64 l.n] 36)
  have L1 := Lies.new w 36 #[.string l.D, .string l.P, .int .i64 l.n]
  have ht1 := ht.then b1
  go_enter Tryd.func24, Tryd.ntmps24
  go_wp2_with fail
  generalize w.alloc (.cells #[.string l.D, .string l.P, .int .i64 l.n] 36) = W at ht1 b1 L1 ⊢
  generalize hg : w.heap.size = g at L1 ⊢
  refine (isLog_any l _ hs ht1).mono ?_
  rintro e w2 ⟨rfl, hb2⟩
  have L2 := L1.below hb2 L1.lt
  have c0 := L2.cell 0
  have c1 := L2.cell 1
  have c2 := L2.cell 2
  simp only [List.getElem?_cons_zero, List.getElem?_cons_succ] at c0 c1 c2
  have hbb : Below w.heap.size w w2 := by rw [← hg] at *; exact bthen b1 hb2
  have HCr := Lib.hid (show crashOk l k = (l.ok && inR k 0 l.P.size) from rfl)
  cases hok : l.ok
  · have HK : Hid (crashOk l k = false) := by rw [HCr.out, hok]; rfl
    have HT : Hid (crashT l k torn = ⟨#[]⟩) := by unfold crashT Hid; rw [HK.out]; rfl
    clear hok HCr L1 L2
    go_wp2_with fail
    go_ret2
    exact ⟨by rw [HK.out, HT.out] <;> rfl, hbb⟩
  · cases hr : inR k 0 l.P.size
    · have HK : Hid (crashOk l k = false) := by rw [HCr.out, hok, hr]; rfl
      have HT : Hid (crashT l k torn = ⟨#[]⟩) := by unfold crashT Hid; rw [HK.out]; rfl
      have HR := Lib.hid hr
      clear hok hr HCr L1 L2
      go_wp2_with (go_at_call 51; refine (inRange_any _ _ _ _).mono ?_; rw [HR.out]; rintro en w' ⟨rfl, rfl⟩)
      go_ret2
      exact ⟨by rw [HK.out, HT.out] <;> rfl, hbb⟩
    · have HK : Hid (crashOk l k = true) := by rw [HCr.out, hok, hr]; rfl
      have HT0 : Hid (crashT l k torn = l.D ++ ⟨(crashL (bl l.P) k.toNat torn).toArray⟩) := by unfold crashT Hid; rw [HK.out]; rfl
      have HR := Lib.hid hr
      rw [inR_iff] at hr
      obtain ⟨n, rfl⟩ := Int.eq_ofNat_of_zero_le hr.1
      have hn : n ≤ l.P.size := by omega
      rw [Int.toNat_natCast] at HT0
      have i1 : (n : Int) ≤ (l.P.size : Int) := by omega
      have hxs : (l.P.extract 0 n).size = n := by rw [← bl_size, bl_extract, List.drop_zero, List.length_take, bl_size]; omega
      obtain ⟨x, hx⟩ : ∃ x : ByteArray, x = l.P.extract 0 n := ⟨_, rfl⟩
      have hbx : bl x = (bl l.P).take n := by rw [hx, bl_extract, List.drop_zero]
      rw [← hx] at hxs
      obtain ⟨W3, cap, hconv0, hbW3, hcell, hfr⟩ := toBytes x w2
      rw [hx] at hconv0
      have hxs' : (l.P.extract 0 n).size = n := by rw [← hx]; exact hxs
      rw [hxs'] at hconv0
      have hgl : g < w2.heap.size := L2.lt
      have c0' := (L2.below hbW3 L2.lt).cell 0
      have c1' := (L2.below hbW3 L2.lt).cell 1
      simp only [List.getElem?_cons_zero, List.getElem?_cons_succ] at c0' c1'
      generalize hgx : w2.heap.size = gx at hconv0 hcell hfr hgl
      have hne : g ≠ gx := by omega
      by_cases hlast : torn = true ∧ 0 < n
      · obtain ⟨rfl, h0⟩ := hlast
        have hL : crashL (bl l.P) n true = (bl x).set (n - 1) (255 - (bl x).getD (n - 1) 0) := by unfold crashL; rw [if_pos ⟨rfl, h0⟩, hbx]
        have hlen : (bl x).length = n := by rw [bl_size, hxs]
        have d1 : decide (0 < (n : Int)) = true := decide_eq_true (by omega)
        obtain ⟨m, rfl⟩ : ∃ m, n = m + 1 := ⟨n - 1, by omega⟩
        have HR2 : Hid (inR ((m : Int) + 1) 0 l.P.size = true) := HR.out
        have d3 : decide (0 < m + 1) = true := by simp
        have j1 : (m : Int) + 1 ≤ (l.P.size : Int) := by omega
        have d2 : decide (0 < (m : Int) + 1) = true := decide_eq_true (by omega)
        have hc := hcell m (by omega)
        have hf := hfr m (by omega)
        obtain ⟨b, hb⟩ : ∃ b, b = (bl x).getD m 0 := ⟨_, rfl⟩
        rw [← hb] at hc
        have ub : (b.toNat : Int) ≤ 255 := by have := UInt8.toNat_lt b; omega
        have hback0 := fromBytes (W := W3.setCell ⟨gx, m, none⟩ (.int .u8 (255 - (b.toNat : Int)))) (g := gx) (l := (bl x).set m (255 - b)) (cap := cap) (fun j hj => by
          rw [List.length_set] at hj
          by_cases hjm : j = m
          · subst hjm
            rw [World.cell?_setCell_same _ _ _ hc]
            rw [getD_of (by rw [List.length_set]; omega), List.getElem_set_self, u8_flip]
          · rw [World.cell?_setCell_other _ _ _ _ (by intro hc9; injection hc9 with _ hc8 _; omega), hcell j (by omega), getD_of (by omega), getD_of (by rw [List.length_set]; omega), List.getElem_set_ne (Ne.symm hjm)])
        rw [List.length_set, hlen] at hback0
        have HT : Hid (crashT l ((m + 1 : Nat) : Int) true = l.D ++ ⟨((bl x).set m (255 - b)).toArray⟩) := by rw [Hid, HT0.out, hL, hb]; first | done | rfl
        have hyz : (⟨((bl x).set m (255 - b)).toArray⟩ : ByteArray).size = m + 1 := by rw [← bl_size, bl_mk, List.length_set, hlen]
        have hfin : Below w.heap.size w (W3.setCell ⟨gx, m, none⟩ (.int .u8 (255 - (b.toNat : Int)))) := (hbb.trans (hbW3.mono hbb.size)).setCell (p := ⟨gx, m, none⟩) (by simp only; have := hbb.size; omega) _
        generalize (⟨((bl x).set m (255 - b)).toArray⟩ : ByteArray) = y at HT hyz hback0
        clear hok hr HCr L1 L2 HT0 hL hlen hbx hcell hfr hb hx hxs
        go_wp2_with (go_at_call 51; refine (inRange_any _ _ _ _).mono ?_; first | rw [HR.out] | rw [HR2.out]; rintro en w' ⟨rfl, rfl⟩)
        go_ret2
        exact ⟨by rw [HK.out, HT.out] <;> rfl, hfin⟩
      · have hL : crashL (bl l.P) n torn = bl x := by unfold crashL; rw [if_neg hlast, hbx]
        have hlen : (bl x).length = n := by rw [bl_size, hxs]
        have hback0 := fromBytes (W := W3) (g := gx) (l := bl x) (cap := cap) (fun j hj => hcell j (by omega))
        rw [hlen] at hback0
        have HT : Hid (crashT l (n : Int) torn = l.D ++ ⟨(bl x).toArray⟩) := by rw [Hid, HT0.out, hL]
        have hyz : (⟨(bl x).toArray⟩ : ByteArray).size = n := by rw [← bl_size, bl_mk, hlen]
        have hfin : Below w.heap.size w W3 := hbb.trans (hbW3.mono hbb.size)
        generalize (⟨(bl x).toArray⟩ : ByteArray) = y at HT hyz hback0
        clear hL hlen hbx hcell hfr hx hxs hok hr HCr L1 L2 HT0
        cases torn
        · go_wp2_with (go_at_call 51; refine (inRange_any _ _ _ _).mono ?_; rw [HR.out]; rintro en w' ⟨rfl, rfl⟩)
          go_ret2
          exact ⟨by rw [HK.out, HT.out] <;> rfl, hfin⟩
        · have h0 : n = 0 := by
            rcases Nat.eq_zero_or_pos n with h | h
            · exact h
            · exact absurd ⟨rfl, h⟩ hlast
          have d1 : decide (0 < (n : Int)) = false := decide_eq_false (by omega)
          have d2 : decide (0 < n) = false := decide_eq_false (by omega)
          clear hlast h0
          go_wp2_with (go_at_call 51; refine (inRange_any _ _ _ _).mono ?_; rw [HR.out]; rintro en w' ⟨rfl, rfl⟩)
          go_ret2
          exact ⟨by rw [HK.out, HT.out] <;> rfl, hfin⟩

end Go.Proofs.YtojceibamgodbaaDoor

/- The reference draws a record. (Printed by gen_drec.py) -/
namespace Go.Proofs.YtojceibamgodbaaDoor
open Go.RowKit

theorem infoU8 : (Tryd.prog.info? 5).map (fun i => (i.zero, i.size, i.bytes)) = some (some (.int .u8 0), 1, 1) := by kernel_rfl
/-- 'string(make([]byte, n))'. -/
theorem zero_text (n : Nat) (hn : n ≤ 1000000) (W : World) : ∃ W' z, z.size = n ∧ Below W.heap.size W W' ∧ (Instr.makeSlice 42 (.int .i64 (n : Int)) (.int .i64 (n : Int))).run Tryd.prog W = .ok (.slice (some ⟨W.heap.size, 0, none⟩) n n) W' ∧
    (convert 42 9 (.slice (some ⟨W.heap.size, 0, none⟩) n n)).run Tryd.prog W' = .ok (.string z) W' := by
  have hm := run_make_all (P := Tryd.prog) 42 5 _ 1 1 Tryd.underlying42 infoU8 n (by omega) (by omega) W
  refine ⟨_, ⟨(List.replicate n 0).toArray⟩, by simp [ByteArray.size], (Below.refl W.heap.size W).alloc (Nat.le_refl _) _, hm, ?_⟩
  have hL := Lies.new W 5 (madeCells #[.int .u8 0] (n * 1))
  have hf := fromBytes (W := W.alloc (.cells (madeCells #[.int .u8 0] (n * 1)) 5)) (g := W.heap.size) (l := List.replicate n 0) (cap := n) (fun j hj => by
    rw [List.length_replicate] at hj
    rw [hL.cell, toList_madeCells_one, List.getElem?_replicate, if_pos (by omega), List.getD_eq_getElem?_getD, List.getElem?_replicate, if_pos hj]
    rfl)
  rw [List.length_replicate] at hf
  exact hf
set_option maxHeartbeats 4000000 in
set_option linter.unusedVariables false in
theorem logRecord_any (g : Nat) (A : Option Addr) (bs : List UInt8) (cap m : Nat) (w W : World) (hm : m ≤ 800000000) (E0 : Env w W g A bs cap m) :
    Calls Tryd.prog 44 #[.pointer (some ⟨g, 0, none⟩)] W fun e w' => ∃ r : Rec, e = .returned r.val ∧ (r.c.size ≤ 20 ∧ r.r.size ≤ 20) ∧ Env w w' g A bs cap (m + 8) ∧ W.grownBy w' (some g) := by
  have hgW := E0.lt
  have hwW := E0.gr.size
  go_enter Tryd.func44, Tryd.ntmps44
  go_wp2_with fail
  have E1 := (E0.alloc (.cells #[.string ⟨#[]⟩, .string ⟨#[]⟩] 45)).alloc (.cells #[.string ⟨#[99, 111, 117, 110, 116]⟩, .string ⟨#[115, 111, 114, 116, 32, 109, 101, 114, 103, 101]⟩, .string ⟨#[120]⟩, .string ⟨#[115, 101, 108, 101, 99, 116, 32, 50]⟩, .string ⟨#[48, 32, 49]⟩] 9)
  have L4 := (Lies.new W 45 #[.string ⟨#[]⟩, .string ⟨#[]⟩]).alloc (.cells #[.string ⟨#[99, 111, 117, 110, 116]⟩, .string ⟨#[115, 111, 114, 116, 32, 109, 101, 114, 103, 101]⟩, .string ⟨#[120]⟩, .string ⟨#[115, 101, 108, 101, 99, 116, 32, 50]⟩, .string ⟨#[48, 32, 49]⟩] 9)
  have Li := Lies.newB W (.cells #[.string ⟨#[]⟩, .string ⟨#[]⟩] 45) 9 #[.string ⟨#[99, 111, 117, 110, 116]⟩, .string ⟨#[115, 111, 114, 116, 32, 109, 101, 114, 103, 101]⟩, .string ⟨#[120]⟩, .string ⟨#[115, 101, 108, 101, 99, 116, 32, 50]⟩, .string ⟨#[48, 32, 49]⟩]
  have G1 := grown_trans (World.grownBy_alloc W (.cells #[.string ⟨#[]⟩, .string ⟨#[]⟩] 45) (some g)) (World.grownBy_alloc _ (.cells #[.string ⟨#[99, 111, 117, 110, 116]⟩, .string ⟨#[115, 111, 114, 116, 32, 109, 101, 114, 103, 101]⟩, .string ⟨#[120]⟩, .string ⟨#[115, 101, 108, 101, 99, 116, 32, 50]⟩, .string ⟨#[48, 32, 49]⟩] 9) (some g))
  generalize (W.alloc (.cells #[.string ⟨#[]⟩, .string ⟨#[]⟩] 45)).alloc (.cells #[.string ⟨#[99, 111, 117, 110, 116]⟩, .string ⟨#[115, 111, 114, 116, 32, 109, 101, 114, 103, 101]⟩, .string ⟨#[120]⟩, .string ⟨#[115, 101, 108, 101, 99, 116, 32, 50]⟩, .string ⟨#[48, 32, 49]⟩] 9) = W1 at E1 L4 Li G1 ⊢
  have HG := Lib.hid G1; clear G1 E0
  obtain ⟨g4, hg4⟩ : ∃ g4, W.heap.size = g4 := ⟨_, rfl⟩
  have h4 : g < g4 ∧ w.heap.size ≤ g4 := by omega
  rw [hg4] at L4 Li
  rw [hg4]
  have HQ := Lib.hid hg4
  clear hg4 hgW hwW
  refine (of_lies E1 (g4 + 1) 5 [⟨#[99, 111, 117, 110, 116]⟩, ⟨#[115, 111, 114, 116, 32, 109, 101, 114, 103, 101]⟩, ⟨#[120]⟩, ⟨#[115, 101, 108, 101, 99, 116, 32, 50]⟩, ⟨#[48, 32, 49]⟩] rfl Li (by omega) (by omega) (by omega) (by omega)).mono ?_
  rintro e W2 ⟨x1, rfl, hmx1, E2, gr⟩
  have hzx1 : x1.size ≤ 20 := by
    simp only [List.mem_cons, List.not_mem_nil, or_false] at hmx1
    rcases hmx1 with rfl | rfl | rfl | rfl | rfl <;> decide
  replace L4 := L4.kept gr (by intro e; injection e; omega)
  replace HG := Lib.hid (grown_trans HG.out gr)
  clear gr E1 Li hmx1
  go_wp2_with fail
  have Li := Lies.new W2 9 #[.string ⟨#[]⟩, .string ⟨#[51]⟩, .string ⟨#[63]⟩, .string ⟨#[97, 64, 98]⟩, .string ⟨#[51, 32, 49, 32, 50]⟩]
  have Ei := E2.alloc (.cells #[.string ⟨#[]⟩, .string ⟨#[51]⟩, .string ⟨#[63]⟩, .string ⟨#[97, 64, 98]⟩, .string ⟨#[51, 32, 49, 32, 50]⟩] 9)
  replace L4 := L4.alloc (.cells #[.string ⟨#[]⟩, .string ⟨#[51]⟩, .string ⟨#[63]⟩, .string ⟨#[97, 64, 98]⟩, .string ⟨#[51, 32, 49, 32, 50]⟩] 9)
  replace HG := Lib.hid (grown_trans HG.out (World.grownBy_alloc W2 (.cells #[.string ⟨#[]⟩, .string ⟨#[51]⟩, .string ⟨#[63]⟩, .string ⟨#[97, 64, 98]⟩, .string ⟨#[51, 32, 49, 32, 50]⟩] 9) (some g)))
  have hl := E2.lt
  generalize W2.alloc (.cells #[.string ⟨#[]⟩, .string ⟨#[51]⟩, .string ⟨#[63]⟩, .string ⟨#[97, 64, 98]⟩, .string ⟨#[51, 32, 49, 32, 50]⟩] 9) = Wi at Li Ei HG L4 ⊢
  generalize W2.heap.size = gi at Li hl ⊢
  refine (of_lies Ei gi 5 [⟨#[]⟩, ⟨#[51]⟩, ⟨#[63]⟩, ⟨#[97, 64, 98]⟩, ⟨#[51, 32, 49, 32, 50]⟩] rfl Li (by omega) (by omega) (by omega) (by omega)).mono ?_
  rintro e W3 ⟨x2, rfl, hmx2, E3, gr⟩
  have hzx2 : x2.size ≤ 20 := by
    simp only [List.mem_cons, List.not_mem_nil, or_false] at hmx2
    rcases hmx2 with rfl | rfl | rfl | rfl | rfl <;> first | decide | omega
  replace L4 := L4.kept gr (by intro e; injection e; omega)
  replace HG := Lib.hid (grown_trans HG.out gr)
  clear gr Ei Li hl E2 hmx2
  go_wp2_with fail
  have E6 := E3.alloc (.cells #[.string x1, .string x2] 45)
  have L5 := Lies.new W3 45 #[.string x1, .string x2]
  have h45 := L4.lt
  replace L4 := L4.alloc (.cells #[.string x1, .string x2] 45)
  replace HG := Lib.hid (grown_trans HG.out (World.grownBy_alloc W3 (.cells #[.string x1, .string x2] 45) (some g)))
  generalize W3.alloc (.cells #[.string x1, .string x2] 45) = W6 at E6 L5 L4 HG ⊢
  generalize W3.heap.size = g5 at L5 h45 ⊢
  clear E3
  refine (pick_env E6 24 (by omega) (by omega)).mono ?_
  rintro e W7 ⟨x, rfl, hx, E7, gr⟩
  replace L4 := L4.kept gr (by intro e; injection e; omega)
  replace L5 := L5.kept gr (by intro e; injection e; omega)
  replace HG := Lib.hid (grown_trans HG.out gr)
  have hw5 : w.heap.size ≤ g5 := by omega
  clear gr E6
  have hc : x = 0 ∨ x = 1 ∨ 2 ≤ x := by omega
  clear hx
  rcases hc with rfl | rfl | h5
  · obtain ⟨W8, z, hz, hb8, hmk, hcv⟩ := zero_text 3 (by omega) W7
    have hmk : (Instr.makeSlice 42 (.int .i64 3) (.int .i64 3)).run Tryd.prog W7 = .ok (.slice (some ⟨W7.heap.size, 0, none⟩) 3 3) W8 := hmk
    have E8 := E7.below hb8
    replace L4 := L4.below hb8 L4.lt
    replace L5 := L5.below hb8 L5.lt
    replace HG := Lib.hid (grown_trans HG.out (grownAny hb8 (some g)))
    clear hb8
    go_upto_region 4 with fail
    go_wp2_with fail
    clear hmk hcv
    have Li := Lies.new W8 9 #[.string ⟨#[]⟩, .string ⟨#[97, 64, 98]⟩, .string ⟨#[97, 35]⟩, .string ⟨#[10]⟩, .string z]
    have Ei := E8.alloc (.cells #[.string ⟨#[]⟩, .string ⟨#[97, 64, 98]⟩, .string ⟨#[97, 35]⟩, .string ⟨#[10]⟩, .string z] 9)
    replace L4 := L4.alloc (.cells #[.string ⟨#[]⟩, .string ⟨#[97, 64, 98]⟩, .string ⟨#[97, 35]⟩, .string ⟨#[10]⟩, .string z] 9)
    replace L5 := L5.alloc (.cells #[.string ⟨#[]⟩, .string ⟨#[97, 64, 98]⟩, .string ⟨#[97, 35]⟩, .string ⟨#[10]⟩, .string z] 9)
    replace HG := Lib.hid (grown_trans HG.out (World.grownBy_alloc W8 (.cells #[.string ⟨#[]⟩, .string ⟨#[97, 64, 98]⟩, .string ⟨#[97, 35]⟩, .string ⟨#[10]⟩, .string z] 9) (some g)))
    have hl := E8.lt
    generalize W8.alloc (.cells #[.string ⟨#[]⟩, .string ⟨#[97, 64, 98]⟩, .string ⟨#[97, 35]⟩, .string ⟨#[10]⟩, .string z] 9) = Wi at Li Ei HG L4 L5 ⊢
    generalize W8.heap.size = gi at Li hl ⊢
    refine (of_lies Ei gi 5 [⟨#[]⟩, ⟨#[97, 64, 98]⟩, ⟨#[97, 35]⟩, ⟨#[10]⟩, z] rfl Li (by omega) (by omega) (by omega) (by omega)).mono ?_
    rintro e W9 ⟨y, rfl, hmy, E9, gr⟩
    have hzy : y.size ≤ 20 := by
      simp only [List.mem_cons, List.not_mem_nil, or_false] at hmy
      rcases hmy with rfl | rfl | rfl | rfl | rfl <;> first | decide | omega
    replace L4 := L4.kept gr (by intro e; injection e; omega)
    replace L5 := L5.kept gr (by intro e; injection e; omega)
    replace HG := Lib.hid (grown_trans HG.out gr)
    clear gr Ei Li hl E8 hmy
    have HE := Lib.hid E9
    clear E9 hz E7
    have d0 := L5.cell 0
    have d1 := L5.cell 1
    simp only [List.getElem?_cons_zero, List.getElem?_cons_succ] at d0 d1
    have e0 := L4.cell 0
    have e1 := L4.cell 1
    simp only [List.getElem?_cons_zero, List.getElem?_cons_succ] at e0 e1
    have f0 := L4.frozen 0
    have f1 := L4.frozen 1
    have p0 := L5.frozen 0
    have p1 := L5.frozen 1
    have HL := Lib.hid (And.intro h4 (And.intro h45 hw5))
    clear h4 hw5
    repeat (first | go_values | go_skip | go_guarded | go_step | go_upon | simp only [])
    refine bodyPost_ret (v := (Rec.mk y x2).val) (by simp [results, Tryd.results44, go_sem, *]) rfl ⟨⟨y, x2⟩, rfl, ⟨by assumption, by assumption⟩, ?_, ?_⟩
    · exact ((HE.out.wrote (h := g5) (grown_set (World.grownBy.refl _ _)) HL.out.2.2 (by have := HL.out; omega)).wrote (h := g4) (grown_set (grown_set (World.grownBy.refl _ _))) HL.out.1.2 HL.out.1.1).mono (by omega)
    · exact grown_own (grown_own HG.out (grown_set (g := g5) (World.grownBy.refl _ _)) (by have := HL.out; have := HQ.out; omega)) (grown_set (g := g4) (grown_set (World.grownBy.refl _ _))) (by have := HQ.out; omega)
  · go_wp2_with fail
    have Li := Lies.new W7 9 #[.string ⟨#[35]⟩, .string ⟨#[10]⟩, .string ⟨#[127]⟩]
    have Ei := E7.alloc (.cells #[.string ⟨#[35]⟩, .string ⟨#[10]⟩, .string ⟨#[127]⟩] 9)
    replace L4 := L4.alloc (.cells #[.string ⟨#[35]⟩, .string ⟨#[10]⟩, .string ⟨#[127]⟩] 9)
    replace L5 := L5.alloc (.cells #[.string ⟨#[35]⟩, .string ⟨#[10]⟩, .string ⟨#[127]⟩] 9)
    replace HG := Lib.hid (grown_trans HG.out (World.grownBy_alloc W7 (.cells #[.string ⟨#[35]⟩, .string ⟨#[10]⟩, .string ⟨#[127]⟩] 9) (some g)))
    have hl := E7.lt
    generalize W7.alloc (.cells #[.string ⟨#[35]⟩, .string ⟨#[10]⟩, .string ⟨#[127]⟩] 9) = Wi at Li Ei HG L4 L5 ⊢
    generalize W7.heap.size = gi at Li hl ⊢
    refine (of_lies Ei gi 3 [⟨#[35]⟩, ⟨#[10]⟩, ⟨#[127]⟩] rfl Li (by omega) (by omega) (by omega) (by omega)).mono ?_
    rintro e W8 ⟨y, rfl, hmy, E8, gr⟩
    have hzy : y.size ≤ 20 := by
      simp only [List.mem_cons, List.not_mem_nil, or_false] at hmy
      rcases hmy with rfl | rfl | rfl <;> first | decide | omega
    replace L4 := L4.kept gr (by intro e; injection e; omega)
    replace L5 := L5.kept gr (by intro e; injection e; omega)
    replace HG := Lib.hid (grown_trans HG.out gr)
    clear gr Ei Li hl E7 hmy
    have HE := Lib.hid E8
    clear E8
    have d0 := L5.cell 0
    have d1 := L5.cell 1
    simp only [List.getElem?_cons_zero, List.getElem?_cons_succ] at d0 d1
    have e0 := L4.cell 0
    have e1 := L4.cell 1
    simp only [List.getElem?_cons_zero, List.getElem?_cons_succ] at e0 e1
    have f0 := L4.frozen 0
    have f1 := L4.frozen 1
    have p0 := L5.frozen 0
    have p1 := L5.frozen 1
    have HL := Lib.hid (And.intro h4 (And.intro h45 hw5))
    clear h4 hw5
    repeat (first | go_values | go_skip | go_guarded | go_step | go_upon | simp only [])
    refine bodyPost_ret (v := (Rec.mk x1 y).val) (by simp [results, Tryd.results44, go_sem, *]) rfl ⟨⟨x1, y⟩, rfl, ⟨by assumption, by assumption⟩, ?_, ?_⟩
    · exact ((HE.out.wrote (h := g5) (grown_set (World.grownBy.refl _ _)) HL.out.2.2 (by have := HL.out; omega)).wrote (h := g4) (grown_set (grown_set (World.grownBy.refl _ _))) HL.out.1.2 HL.out.1.1).mono (by omega)
    · exact grown_own (grown_own HG.out (grown_set (g := g5) (World.grownBy.refl _ _)) (by have := HL.out; have := HQ.out; omega)) (grown_set (g := g4) (grown_set (World.grownBy.refl _ _))) (by have := HQ.out; omega)
  · have b0 : ((x : Int) == 0) = false := by rw [beq_eq_false_iff_ne]; omega
    have b1 : ((x : Int) == 1) = false := by rw [beq_eq_false_iff_ne]; omega
    have E8 := E7.mono (show _ ≤ m + 2 + 2 + 2 + 2 by omega)
    clear h5 E7
    have HE := Lib.hid E8
    clear E8
    have d0 := L5.cell 0
    have d1 := L5.cell 1
    simp only [List.getElem?_cons_zero, List.getElem?_cons_succ] at d0 d1
    have e0 := L4.cell 0
    have e1 := L4.cell 1
    simp only [List.getElem?_cons_zero, List.getElem?_cons_succ] at e0 e1
    have f0 := L4.frozen 0
    have f1 := L4.frozen 1
    have p0 := L5.frozen 0
    have p1 := L5.frozen 1
    have HL := Lib.hid (And.intro h4 (And.intro h45 hw5))
    clear h4 hw5
    repeat (first | go_values | go_skip | go_guarded | go_step | go_upon | simp only [])
    refine bodyPost_ret (v := (Rec.mk x1 x2).val) (by simp [results, Tryd.results44, go_sem, *]) rfl ⟨⟨x1, x2⟩, rfl, ⟨by assumption, by assumption⟩, ?_, ?_⟩
    · exact (HE.out.wrote (h := g4) (grown_set (grown_set (World.grownBy.refl _ _))) HL.out.1.2 HL.out.1.1).mono (by omega)
    · exact grown_own HG.out (grown_set (g := g4) (grown_set (World.grownBy.refl _ _))) (by have := HQ.out; omega)
end Go.Proofs.YtojceibamgodbaaDoor

/- EncodeRecord: both sides and the law. -/
namespace Go.Proofs.YtojceibamgodbaaDoor
open Go.RowKit

def encOk (k : Int) (e : Rec) : Bool := inR k 0 59 && e.ok
def encT (k : Int) (e : Rec) : ByteArray := if encOk k e then ⟨(lineL k.toNat (bl e.c) (bl e.r)).toArray⟩ else ⟨#[]⟩

set_option maxHeartbeats 1000000 in
theorem specEncode_any (k : Int) (e : Rec) (w : World) (h1 : e.c.size ≤ 1048576) (h2 : e.r.size ≤ 1048576) (hk : -9223372036854775808 ≤ k) (hk' : k ≤ 9223372036854775807) :
    Calls Tryd.prog 29 #[.int .i64 k, e.val] w fun en w' => en = .returned (.tuple #[.string (encT k e), .bool (encOk k e)]) ∧ Below w.heap.size w w' := by
  have b1 := (Below.refl w.heap.size w).alloc (Nat.le_refl _) (.cells #[.string e.c, .string e.r] 45)
  have L1 := Lies.new w 45 #[.string e.c, .string e.r]
  have HG := Lib.hid (fun W => l33Good_any e W (by omega) (by omega))
  cases hr : inR k 0 59
  · have HA : Hid (encOk k e = false) := by unfold encOk Hid; rw [hr]; rfl
    have HB : Hid (encT k e = ⟨#[]⟩) := by unfold encT Hid; rw [HA.out]; rfl
    have HR := Lib.hid hr; clear hr
    go_enter Tryd.func29, Tryd.ntmps29
    go_wp2_with (go_at_call 52; refine (l1In_any _ _ _ _).mono ?_; rw [HR.out]; rintro en w' ⟨rfl, rfl⟩)
    go_ret2
    exact ⟨by rw [HA.out, HB.out]; rfl, b1⟩
  · rw [inR_iff] at hr
    obtain ⟨n, rfl⟩ := Int.eq_ofNat_of_zero_le hr.1
    have HR : Hid (inR (n : Int) 0 59 = true) := by rw [Hid, inR_iff]; exact hr
    cases hok : e.ok
    · rw [hok] at HG
      have HA : Hid (encOk (n : Int) e = false) := by unfold encOk Hid; rw [hok]; simp
      have HB : Hid (encT (n : Int) e = ⟨#[]⟩) := by unfold encT Hid; rw [HA.out]; rfl
      clear hr hok
      go_enter Tryd.func29, Tryd.ntmps29
      go_wp2_with (first | (go_at_call 52; refine (l1In_any _ _ _ _).mono ?_; rw [HR.out]; rintro en w' ⟨rfl, rfl⟩) | (go_at_call 48; refine (HG.out _).mono ?_; rintro en w1 ⟨rfl, hb1⟩))
      go_ret2
      exact ⟨by first | (rw [HA.out, HB.out]; rfl) | (have h1 := HA.out; have h2 := HB.out; simp only [Int.ofNat_eq_natCast] at *; rw [h1, h2]; rfl), bthen b1 hb1⟩
    · rw [hok] at HG
      have HA : Hid (encOk (n : Int) e = true) := by unfold encOk Hid; rw [hok, HR.out]; rfl
      have HB : Hid (encT (n : Int) e = ⟨(lineL n (bl e.c) (bl e.r)).toArray⟩) := by unfold encT Hid; rw [HA.out, if_pos rfl, Int.toNat_natCast]
      have HLn : Hid (∀ W, Calls Tryd.prog 49 #[.int .i64 (n : Int), e.val] W fun en w' => en = .returned (.string (encT (n : Int) e)) ∧ Below W.heap.size W w') := fun W => by rw [HB.out]; exact l33Line_any n e W (by omega) (by have := (recOk_iff.1 hok).2.1; rw [bl_size] at this; omega) (by have := (recOk_iff.1 hok).2.2.2.2.2; rw [bl_size] at this; omega)
      clear hr hok
      go_enter Tryd.func29, Tryd.ntmps29
      go_wp2_with (first | (go_at_call 52; refine (l1In_any _ _ _ _).mono ?_; rw [HR.out]; rintro en w' ⟨rfl, rfl⟩))
      generalize w.alloc (.cells #[.string e.c, .string e.r] 45) = W at b1 L1 ⊢
      generalize hg : w.heap.size = g at L1 ⊢
      refine (HG.out _).mono ?_
      rintro en w1 ⟨rfl, hb1⟩
      have M1 := L1.below hb1 L1.lt
      have c0 := M1.cell 0
      have c1 := M1.cell 1
      simp only [List.getElem?_cons_zero, List.getElem?_cons_succ] at c0 c1
      go_wp2_with (go_at_call 49; refine (HLn.out _).mono ?_; rintro en w2 ⟨rfl, hb2⟩)
      go_ret2
      exact ⟨by rw [HA.out]; rfl, by rw [← hg] at *; exact bthen b1 (bthen hb1 hb2)⟩

set_option maxHeartbeats 1000000 in
theorem implEncode_any (k : Int) (e : Rec) (w : World) (h1 : e.c.size ≤ 1048576) (h2 : e.r.size ≤ 1048576) (hk : -9223372036854775808 ≤ k) (hk' : k ≤ 9223372036854775807) (ht : Tab w) :
    Calls Tryd.prog 28 #[.int .i64 k, e.val] w fun en w' => en = .returned (.tuple #[.string (encT k e), .bool (encOk k e)]) ∧ Below w.heap.size w w' := by
  have b1 := (Below.refl w.heap.size w).alloc (Nat.le_refl _) (.cells #[.string e.c, .string e.r] 45)
  have L1 := Lies.new w 45 #[.string e.c, .string e.r]
  have ht1 := ht.then b1
  have HG := Lib.hid (fun W => isRecord_any e W (by omega) (by omega))
  cases hr : inR k 0 59
  · have HA : Hid (encOk k e = false) := by unfold encOk Hid; rw [hr]; rfl
    have HB : Hid (encT k e = ⟨#[]⟩) := by unfold encT Hid; rw [HA.out]; rfl
    have HR := Lib.hid hr; clear hr
    go_enter Tryd.func28, Tryd.ntmps28
    go_wp2_with (go_at_call 51; refine (inRange_any _ _ _ _).mono ?_; rw [HR.out]; rintro en w' ⟨rfl, rfl⟩)
    go_ret2
    exact ⟨by rw [HA.out, HB.out]; rfl, b1⟩
  · rw [inR_iff] at hr
    obtain ⟨n, rfl⟩ := Int.eq_ofNat_of_zero_le hr.1
    have HR : Hid (inR (n : Int) 0 59 = true) := by rw [Hid, inR_iff]; exact hr
    cases hok : e.ok
    · rw [hok] at HG
      have HA : Hid (encOk (n : Int) e = false) := by unfold encOk Hid; rw [hok]; simp
      have HB : Hid (encT (n : Int) e = ⟨#[]⟩) := by unfold encT Hid; rw [HA.out]; rfl
      clear hr hok
      go_enter Tryd.func28, Tryd.ntmps28
      go_wp2_with (first | (go_at_call 51; refine (inRange_any _ _ _ _).mono ?_; rw [HR.out]; rintro en w' ⟨rfl, rfl⟩) | (go_at_call 45; refine (HG.out _).mono ?_; rintro en w1 ⟨rfl, hb1⟩))
      go_ret2
      exact ⟨by rw [HA.out, HB.out]; rfl, bthen b1 hb1⟩
    · rw [hok] at HG
      have HA : Hid (encOk (n : Int) e = true) := by unfold encOk Hid; rw [hok, HR.out]; rfl
      have HB : Hid (encT (n : Int) e = ⟨(lineL n (bl e.c) (bl e.r)).toArray⟩) := by unfold encT Hid; rw [HA.out, if_pos rfl, Int.toNat_natCast]
      have HLn : Hid (∀ W, Tab W → Calls Tryd.prog 46 #[.int .i64 (n : Int), e.val] W fun en w' => en = .returned (.string (encT (n : Int) e)) ∧ Below W.heap.size W w') := fun W hW => by rw [HB.out]; exact encodeRecord_any n e W (by omega) hok hW
      clear hr hok
      go_enter Tryd.func28, Tryd.ntmps28
      go_wp2_with (first | (go_at_call 51; refine (inRange_any _ _ _ _).mono ?_; rw [HR.out]; rintro en w' ⟨rfl, rfl⟩))
      generalize w.alloc (.cells #[.string e.c, .string e.r] 45) = W at b1 L1 ht1 ⊢
      generalize hg : w.heap.size = g at L1 ⊢
      refine (HG.out _).mono ?_
      rintro en w1 ⟨rfl, hb1⟩
      have M1 := L1.below hb1 L1.lt
      have c0 := M1.cell 0
      have c1 := M1.cell 1
      simp only [List.getElem?_cons_zero, List.getElem?_cons_succ] at c0 c1
      have ht2 := ht1.then hb1
      go_wp2_with (go_at_call 46; refine (HLn.out _ ht2).mono ?_; rintro en w2 ⟨rfl, hb2⟩)
      go_ret2
      exact ⟨by rw [HA.out]; rfl, by rw [← hg] at *; exact bthen b1 (bthen hb1 hb2)⟩

theorem lessR_ok {n : Nat} (h : (n : Int) ≤ 1048576) : lessR 1048576 n = 1048576 - n := by unfold lessR; rw [if_pos h]
theorem lessR_no {n : Nat} (h : ¬ (n : Int) ≤ 1048576) : lessR 1048576 n = -1 := by unfold lessR; rw [if_neg h]

end Go.Proofs.YtojceibamgodbaaDoor

/- A region whose order is drawn and whose last operation comes behind all others (a store): by one fact on each operation. -/
namespace Go.Proofs.YtojceibamgodbaaDoor
open Go.RowKit

section
variable {P : Program} {ops : Array Oper} {Q : Exit → Act → World → Prop}

/-- The walk: a fact on each operation's value, and the last operation from all the facts. -/
def wpFactsT (P : Program) (ops : Array Oper) (Q : Exit → Act → World → Prop) (C : World → Prop) (T : World → World → Prop) (fr : (Nat → Value) → Act) : Nat → List Oper → List (Value → World → Prop) → Prop
  | _, [], _ => False
  | k, o :: l, Rs => (l = [] ∧ ∀ vs w, C w → (∀ (j : Nat) (R : Value → World → Prop), Rs[j]? = some R → R (vs j) w) → ∀ K : Act → World → Prop, (∀ a' w', Q .normal a' w' → K a' w') →
      if Region.wanted o (yielded ops (fr vs).tmps) = true then o.wp P (fr vs) w K Q else K ((fr vs).put o.dst undef) w) ∨
    (∃ R : Value → World → Prop, (∀ v w w', R v w → T w w' → R v w') ∧
    (∀ vs w, C w → (∀ (j : Nat) (R' : Value → World → Prop), ahead .any ops ops.size k j = true → Rs[j]? = some R' → R' (vs j) w) → ∀ K : Act → World → Prop, (∀ a' v w', a' = (fr vs).put o.dst v → R v w' → C w' → T w w' → K a' w') →
      if Region.wanted o (yielded ops (fr vs).tmps) = true then o.wp P (fr vs) w K Q else K ((fr vs).put o.dst undef) w) ∧
    wpFactsT P ops Q C T fr (k + 1) l (Rs ++ [R]))

theorem wpFactsT_all {C : World → Prop} {T : World → World → Prop} {fr : (Nat → Value) → Act} : ∀ (l : List Oper) (k : Nat) (Rs : List (Value → World → Prop)), (∀ i, l[i]? = ops[k + i]?) → Rs.length = k →
    (∀ (j : Nat) (R : Value → World → Prop), Rs[j]? = some R → ∀ v w w', R v w → T w w' → R v w') →
    (∀ (j : Nat) (o : Oper) (R : Value → World → Prop), j < k → ops[j]? = some o → Rs[j]? = some R → ∀ vs w, C w → (∀ (j' : Nat) (R' : Value → World → Prop), ahead .any ops ops.size j j' = true → j' < j → Rs[j']? = some R' → R' (vs j') w) → ∀ K : Act → World → Prop, (∀ a' v w', a' = (fr vs).put o.dst v → R v w' → C w' → T w w' → K a' w') →
      if Region.wanted o (yielded ops (fr vs).tmps) = true then o.wp P (fr vs) w K Q else K ((fr vs).put o.dst undef) w) →
    wpFactsT P ops Q C T fr k l Rs →
    ∃ Rs' : List (Value → World → Prop), Rs'.length + 1 = ops.size ∧ (∀ (j : Nat) (R : Value → World → Prop), Rs'[j]? = some R → ∀ v w w', R v w → T w w' → R v w') ∧
    (∀ (j : Nat) (o : Oper) (R : Value → World → Prop), ops[j]? = some o → Rs'[j]? = some R → ∀ vs w, C w → (∀ (j' : Nat) (R' : Value → World → Prop), ahead .any ops ops.size j j' = true → j' < j → Rs'[j']? = some R' → R' (vs j') w) → ∀ K : Act → World → Prop, (∀ a' v w', a' = (fr vs).put o.dst v → R v w' → C w' → T w w' → K a' w') →
      if Region.wanted o (yielded ops (fr vs).tmps) = true then o.wp P (fr vs) w K Q else K ((fr vs).put o.dst undef) w) ∧
    (∀ o, ops[Rs'.length]? = some o → ∀ vs w, C w → (∀ (j : Nat) (R : Value → World → Prop), Rs'[j]? = some R → R (vs j) w) → ∀ K : Act → World → Prop, (∀ a' w', Q .normal a' w' → K a' w') →
      if Region.wanted o (yielded ops (fr vs).tmps) = true then o.wp P (fr vs) w K Q else K ((fr vs).put o.dst undef) w)
  | [], k, Rs, _, _, _, _, h => h.elim
  | o :: l, k, Rs, hl, hlen, hst, hop, h => by
    have ho : ops[k]? = some o := by simpa using (hl 0).symm
    rcases h with ⟨rfl, hlast⟩ | ⟨R, hRs, hRo, hrest⟩
    · have h1 : ops[k + 1]? = none := by have := hl 1; simpa using this.symm
      have hk : k < ops.size := (Array.getElem?_eq_some_iff.1 ho).1
      have hk1 : ¬ k + 1 < ops.size := fun hh => by rw [Array.getElem?_eq_getElem hh] at h1; cases h1
      refine ⟨Rs, by omega, hst, fun j o R ho hR => hop j o R ?_ ho hR, fun o' ho' => ?_⟩
      · rw [← hlen]; exact (List.getElem?_eq_some_iff.1 hR).1
      · rw [hlen, ho] at ho'; cases ho'; exact hlast
    · have hold : ∀ j, j < k → (Rs ++ [R])[j]? = Rs[j]? := fun j hj => List.getElem?_append_left (by omega)
      have hnew : (Rs ++ [R])[k]? = some R := by rw [List.getElem?_append_right (by omega), hlen]; simp
      exact wpFactsT_all l (k + 1) (Rs ++ [R]) (fun i => by have := hl (i + 1); simpa [Nat.add_assoc, Nat.add_comm 1 i] using this) (by simp [hlen])
        (fun j R' hR' => by
          rcases Nat.lt_trichotomy j k with hj | hj | hj
          · rw [hold j hj] at hR'; exact hst j R' hR'
          · subst hj; rw [hnew] at hR'; cases hR'; exact hRs
          · rw [List.getElem?_eq_none (by simp [hlen]; omega)] at hR'; cases hR')
        (fun j o' R' hj ho' hR' vs w hC hB K hK => by
          rcases Nat.lt_or_ge j k with hjk | hjk
          · rw [hold j hjk] at hR'
            exact hop j o' R' hjk ho' hR' vs w hC (fun j' R'' ha hlt h'' => hB j' R'' ha hlt (by rw [hold j' (by omega)]; exact h'')) K hK
          · obtain rfl : j = k := by omega
            rw [ho] at ho'; cases ho'
            rw [hnew] at hR'; cases hR'
            refine hRo vs w hC (fun j' R'' ha h'' => ?_) K hK
            have hlt : j' < Rs.length := (List.getElem?_eq_some_iff.1 h'').1
            exact hB j' R'' ha (by omega) (by rw [hold j' (by omega)]; exact h''))
        hrest

def allAhead (ops : Array Oper) (n : Nat) : Bool := (List.range n).all fun j => ahead .any ops ops.size n j

theorem wpAny_factsT {C : World → Prop} {T : World → World → Prop} {a₀ : Act} (hap : dstsApart ops.toList = true) (hdn : edgesDown .any ops = true) (Rs : List (Value → World → Prop)) (hlen : Rs.length + 1 = ops.size) (hah : allAhead ops Rs.length = true)
    (hst : ∀ (j : Nat) (R : Value → World → Prop), Rs[j]? = some R → ∀ v w w', R v w → T w w' → R v w')
    (hop : ∀ (j : Nat) (o : Oper) (R : Value → World → Prop), ops[j]? = some o → Rs[j]? = some R → ∀ vs w, C w → (∀ (j' : Nat) (R' : Value → World → Prop), ahead .any ops ops.size j j' = true → j' < j → Rs[j']? = some R' → R' (vs j') w) → ∀ K : Act → World → Prop, (∀ a' v w', a' = (fillOps vs ops.toList 0 a₀).put o.dst v → R v w' → C w' → T w w' → K a' w') →
      if Region.wanted o (yielded ops (fillOps vs ops.toList 0 a₀).tmps) = true then o.wp P (fillOps vs ops.toList 0 a₀) w K Q else K ((fillOps vs ops.toList 0 a₀).put o.dst undef) w)
    (hlast : ∀ o, ops[Rs.length]? = some o → ∀ vs w, C w → (∀ (j : Nat) (R : Value → World → Prop), Rs[j]? = some R → R (vs j) w) → ∀ K : Act → World → Prop, (∀ a' w', Q .normal a' w' → K a' w') →
      if Region.wanted o (yielded ops (fillOps vs ops.toList 0 a₀).tmps) = true then o.wp P (fillOps vs ops.toList 0 a₀) w K Q else K ((fillOps vs ops.toList 0 a₀).put o.dst undef) w) :
    ∀ (fuel : Nat) (listed : Array Bool) (vs : Nat → Value) (w : World), listed.size = ops.size → unlisted ops.size listed ≤ fuel → Closed .any ops listed → listed.getD Rs.length false = false → C w → (∀ (j : Nat) (R : Value → World → Prop), listed.getD j false = true → Rs[j]? = some R → R (vs j) w) →
      wpAny P .any ops Q fuel listed (fillOps vs ops.toList 0 a₀) w := by
  intro fuel
  induction fuel with
  | zero =>
    intro listed vs w hs hu hcl hn hC hR
    have : unlisted ops.size (listed.setIfInBounds Rs.length true) < unlisted ops.size listed := unlisted_set (by omega) hs hn
    omega
  | succ fuel ih =>
    intro listed vs w hs hu hcl hn hC hR
    refine ⟨fun hr => ?_, fun i hi => ?_⟩
    · have := listed_ready hdn hs hr Rs.length (by omega)
      rw [hn] at this; cases this
    obtain ⟨h0, o, ho, hall⟩ := mem_ready.1 hi
    have hisz : i < ops.size := (Array.getElem?_eq_some_iff.1 ho).1
    have hil : i < listed.size := by omega
    have h0' : listed.getD i false = false := by simp only [Array.getD, hil, ↓reduceDIte] at h0 ⊢; exact h0
    by_cases hin : i = Rs.length
    · have hall' : ∀ j, j < Rs.length → listed.getD j false = true := fun j hj => by
        refine ahead_listed hcl ops.size i j (fun o' ho' => by rw [ho] at ho'; cases ho'; exact hall) ?_
        rw [hin]; exact List.all_eq_true.1 hah j (List.mem_range.2 hj)
      have hstep := hlast o (by rw [← hin]; exact ho) vs w hC (fun j R hj => hR j R (hall' j (List.getElem?_eq_some_iff.1 hj).1) hj)
        (wpAny P .any ops Q fuel (listed.setIfInBounds i true)) (fun a' w' hq => by
          have hfull : ∀ j, j ∉ Region.ready .any ops (listed.setIfInBounds i true) := fun j hj => by
            obtain ⟨g0, o', ho', _⟩ := mem_ready.1 hj
            have hjs : j < ops.size := (Array.getElem?_eq_some_iff.1 ho').1
            have hjl : j < (listed.setIfInBounds i true).size := by simp; omega
            have g0' : (listed.setIfInBounds i true).getD j false = false := by simp only [Array.getD, hjl, ↓reduceDIte] at g0 ⊢; exact g0
            by_cases hji : j = i
            · subst hji; simp [hil] at g0'
            · rw [getD_set_ne false (Ne.symm hji), hall' j (by omega)] at g0'; cases g0'
          have hnil : Region.ready .any ops (listed.setIfInBounds i true) = [] := List.eq_nil_iff_forall_not_mem.2 hfull
          cases fuel with
          | zero => exact ⟨hnil, hq⟩
          | succ fuel => exact ⟨fun _ => hq, fun j hj => absurd hj (hfull j)⟩)
      unfold wpOp
      simp only [ho]
      split
      · rename_i hw; rw [if_pos hw] at hstep; exact .inl hstep
      · rename_i hw; rw [if_neg hw] at hstep; exact hstep
    obtain ⟨R, hRi⟩ : ∃ R, Rs[i]? = some R := ⟨Rs[i]'(by omega), List.getElem?_eq_getElem (by omega)⟩
    have hstep := hop i o R ho hRi vs w hC (fun j' R' ha _ hR' => hR j' R' (ahead_listed hcl ops.size i j' (fun o' ho' => by rw [ho] at ho'; cases ho'; exact hall) ha) hR')
      (wpAny P .any ops Q fuel (listed.setIfInBounds i true)) (fun a' v w' ha hRv hC' hT => by
        rw [ha, fillOps_upd ops.toList 0 a₀ vs i o v hap (by simpa using ho), Nat.zero_add]
        refine ih _ _ _ (by simpa using hs) ?_ ?_ ?_ hC' ?_
        · have := unlisted_set hisz hs h0'; omega
        · intro j oj hoj hj e he hb
          by_cases hji : j = i
          · subst hji; rw [ho] at hoj; cases hoj; exact getD_set_true (hall e he hb)
          · rw [getD_set_ne false (Ne.symm hji)] at hj; exact getD_set_true (hcl j oj hoj hj e he hb)
        · rw [getD_set_ne false (fun h => hin h)]; exact hn
        · intro j R' hj hR'
          by_cases hji : j = i
          · subst hji; rw [hRi] at hR'; cases hR'; simpa [upd] using hRv
          · rw [getD_set_ne false (Ne.symm hji)] at hj
            have := hst j R' hR' _ _ _ (hR j R' hj hR') hT
            simpa [upd, hji] using this)
    unfold wpOp
    simp only [ho]
    split
    · rename_i hw; rw [if_pos hw] at hstep; exact .inl hstep
    · rename_i hw; rw [if_neg hw] at hstep; exact hstep

/-- The region. -/
theorem wp_region_factsT {id : Nat} {a : Act} {w : World} {l : List Oper} (C : World → Prop) (T : World → World → Prop) (hm : P.follows .mixedOrders = true) (hap : dstsApart l = true) (hdn : edgesDown .any l.toArray = true) (hah : allAhead l.toArray (l.length - 1) = true)
    (hC : C w.drew) (h : wpFactsT P l.toArray Q C T (fun vs => fillOps vs l 0 a) 0 l []) : (Code.region id l.toArray true).wp P Q a w := by
  refine wp_region_any hm ?_
  obtain ⟨Rs, h1, h2, h3, h4⟩ := wpFactsT_all (ops := l.toArray) l 0 [] (by simp) rfl (by simp) (by simp) h
  obtain ⟨vs, hvs⟩ : ∃ vs : Nat → Value, ∀ i o t, l[i]? = some o → o.dst = some t → vs (0 + i) = a.tmps.getD t undef :=
    ⟨fun i => match (l[i]?).bind (·.dst) with | some t => a.tmps.getD t undef | none => undef, fun i o t hi ht => by simp [hi, ht]⟩
  have hl1 : Rs.length = l.length - 1 := by have h1' : Rs.length + 1 = l.length := by simpa using h1
                                            omega
  have := wpAny_factsT (P := P) (Q := Q) (ops := l.toArray) (C := C) (T := T) (a₀ := a) hap hdn Rs h1 (by rw [hl1]; exact hah) h2 h3 h4 l.toArray.size (Array.replicate l.toArray.size false) vs w.drew (by simp)
    (Nat.le_trans (List.length_filter_le _ _) (by simp)) (fun j o hj hl => by simp [Array.getD] at hl) (by simp [Array.getD]) hC (fun j R hl => by simp [Array.getD] at hl)
  rwa [fillOps_self vs _ 0 a (by simpa using hvs)] at this

theorem wpFactsT_last {C : World → Prop} {T : World → World → Prop} {fr : (Nat → Value) → Act} {k : Nat} {o : Oper} {Rs : List (Value → World → Prop)} (h : ∀ vs w, C w → (∀ (j : Nat) (R : Value → World → Prop), Rs[j]? = some R → R (vs j) w) → ∀ K : Act → World → Prop, (∀ a' w', Q .normal a' w' → K a' w') →
      if Region.wanted o (yielded ops (fr vs).tmps) = true then o.wp P (fr vs) w K Q else K ((fr vs).put o.dst undef) w) : wpFactsT P ops Q C T fr k [o] Rs := .inl ⟨rfl, h⟩
/-- An operation with one value. -/
theorem wpFactsT_val {C : World → Prop} {T : World → World → Prop} {fr : (Nat → Value) → Act} {k : Nat} {o : Oper} {l : List Oper} {Rs : List (Value → World → Prop)} (V : Value)
    (h1 : ∀ vs w, C w → (∀ (j : Nat) (R' : Value → World → Prop), ahead .any ops ops.size k j = true → Rs[j]? = some R' → R' (vs j) w) → ∀ K : Act → World → Prop, (∀ a' w', a' = (fr vs).put o.dst V → C w' → T w w' → K a' w') →
      if Region.wanted o (yielded ops (fr vs).tmps) = true then o.wp P (fr vs) w K Q else K ((fr vs).put o.dst undef) w)
    (h2 : wpFactsT P ops Q C T fr (k + 1) l (Rs ++ [fun v _ => v = V])) : wpFactsT P ops Q C T fr k (o :: l) Rs :=
  .inr ⟨fun v _ => v = V, fun _ _ _ h _ => h, fun vs w hC hB K hK => h1 vs w hC hB K fun a' w' ha hC' hT => hK a' V w' ha rfl hC' hT, h2⟩
/-- An operation whose value has a property. -/
theorem wpFactsT_some {C : World → Prop} {T : World → World → Prop} {fr : (Nat → Value) → Act} {k : Nat} {o : Oper} {l : List Oper} {Rs : List (Value → World → Prop)} (R : Value → World → Prop) (hR : ∀ v w w', R v w → T w w' → R v w')
    (h1 : ∀ vs w, C w → (∀ (j : Nat) (R' : Value → World → Prop), ahead .any ops ops.size k j = true → Rs[j]? = some R' → R' (vs j) w) → ∀ K : Act → World → Prop, (∀ a' v w', a' = (fr vs).put o.dst v → R v w' → C w' → T w w' → K a' w') →
      if Region.wanted o (yielded ops (fr vs).tmps) = true then o.wp P (fr vs) w K Q else K ((fr vs).put o.dst undef) w)
    (h2 : wpFactsT P ops Q C T fr (k + 1) l (Rs ++ [R])) : wpFactsT P ops Q C T fr k (o :: l) Rs :=
  .inr ⟨R, hR, h1, h2⟩
end
end Go.Proofs.YtojceibamgodbaaDoor

/- AppendRecord: both sides and the law. -/
namespace Go.Proofs.YtojceibamgodbaaDoor
open Go.RowKit

noncomputable def appCode (l : Lg) (e : Rec) : Int := if l.ok && e.ok then (if l.n = 60 then 2 else 0) else 1
noncomputable def appLg (l : Lg) (e : Rec) : Lg := if l.ok && e.ok then (if l.n = 60 then l else ⟨l.D, l.P ++ ⟨(lineL l.n.toNat (bl e.c) (bl e.r)).toArray⟩, l.n + 1⟩) else l
theorem appLg_no {l : Lg} {e : Rec} (h : (l.ok && e.ok) = false) : appLg l e = l ∧ appCode l e = 1 := by unfold appLg appCode; rw [h]; exact ⟨rfl, rfl⟩
theorem appLg_full {l : Lg} {e : Rec} (h : (l.ok && e.ok) = true) (hn : l.n = 60) : appLg l e = l ∧ appCode l e = 2 := by unfold appLg appCode; rw [h, if_pos rfl, if_pos rfl, if_pos hn, if_pos hn]; exact ⟨rfl, rfl⟩
theorem appLg_yes {l : Lg} {e : Rec} (h : (l.ok && e.ok) = true) (hn : l.n ≠ 60) : appLg l e = ⟨l.D, l.P ++ ⟨(lineL l.n.toNat (bl e.c) (bl e.r)).toArray⟩, l.n + 1⟩ ∧ appCode l e = 0 := by unfold appLg appCode; rw [h, if_pos rfl, if_pos rfl, if_neg hn, if_neg hn]; exact ⟨rfl, rfl⟩

set_option maxRecDepth 100000 in
set_option maxHeartbeats 4000000 in
theorem specAppend_any (l : Lg) (e : Rec) (w : World) (hs : l.D.size + l.P.size ≤ 2000000) (h1 : e.c.size ≤ 1048576) (h2 : e.r.size ≤ 1048576) :
    Calls Tryd.prog 15 #[l.val, e.val] w fun en w' => en = .returned (.tuple #[(appLg l e).val, .int .i64 (appCode l e)]) ∧ Below w.heap.size w w' := by
  obtain ⟨D, P, n⟩ := l
  simp only at hs
  have hoff := @logOk_iff (bl D) (bl P) n
  have hoff2 := openF_length 60 0 (bl D ++ bl P)
  have HV1 := Lib.hid (appLg_no (l := ⟨D, P, n⟩) (e := e))
  have HV2 := Lib.hid (appLg_full (l := ⟨D, P, n⟩) (e := e))
  have HV3 := Lib.hid (appLg_yes (l := ⟨D, P, n⟩) (e := e))
  have HS := Lib.hid (fun W => l33Log_any ⟨D, P, n⟩ W hs)
  have HG := Lib.hid (fun W => l33Good_any e W (by omega) (by omega))
  have b1 := (((Below.refl w.heap.size w).alloc (Nat.le_refl _) (.cells #[.string D, .string P, .int .i64 n] 36)).alloc (by simp) (.cells #[.string e.c, .string e.r] 45)).alloc (by simp; omega) (.cells #[.string ⟨#[]⟩, .string ⟨#[]⟩, .int .i64 0] 36)
  have L1 := ((Lies.new w 36 #[.string D, .string P, .int .i64 n]).alloc (.cells #[.string e.c, .string e.r] 45)).alloc (.cells #[.string ⟨#[]⟩, .string ⟨#[]⟩, .int .i64 0] 36)
  have E1 := (Lies.new (w.alloc (.cells #[.string D, .string P, .int .i64 n] 36)) 45 #[.string e.c, .string e.r]).alloc (.cells #[.string ⟨#[]⟩, .string ⟨#[]⟩, .int .i64 0] 36)
  have N1 := Lies.new ((w.alloc (.cells #[.string D, .string P, .int .i64 n] 36)).alloc (.cells #[.string e.c, .string e.r] 45)) 36 #[.string ⟨#[]⟩, .string ⟨#[]⟩, .int .i64 0]
  have hg1 : (w.alloc (.cells #[.string D, .string P, .int .i64 n] 36)).heap.size = w.heap.size + 1 := by simp
  have hg2 : ((w.alloc (.cells #[.string D, .string P, .int .i64 n] 36)).alloc (.cells #[.string e.c, .string e.r] 45)).heap.size = w.heap.size + 2 := by simp
  rw [hg1] at E1
  rw [hg2] at N1
  clear hg1 hg2
  go_enter Tryd.func15, Tryd.ntmps15
  go_wp2_with fail
  generalize ((w.alloc (.cells #[.string D, .string P, .int .i64 n] 36)).alloc (.cells #[.string e.c, .string e.r] 45)).alloc (.cells #[.string ⟨#[]⟩, .string ⟨#[]⟩, .int .i64 0] 36) = W at b1 L1 E1 N1 ⊢
  generalize hg : w.heap.size = g at L1 E1 N1 ⊢
  refine (HS.out _).mono ?_
  rintro en w2 ⟨rfl, hb2⟩
  have L2 := L1.below hb2 L1.lt
  have E2 := E1.below hb2 E1.lt
  have N2 := N1.below hb2 N1.lt
  have c20 := L2.cell 0
  have c21 := L2.cell 1
  have c22 := L2.cell 2
  have e20 := E2.cell 0
  have e21 := E2.cell 1
  have n20 := N2.cell 0
  have n21 := N2.cell 1
  have n22 := N2.cell 2
  have f20 := N2.frozen 0
  have f21 := N2.frozen 1
  have f22 := N2.frozen 2
  have hl2 := L2.lt
  have he2 := E2.lt
  have hn2 := N2.lt
  simp only [List.getElem?_cons_zero, List.getElem?_cons_succ] at c20 c21 c22 e20 e21 n20 n21 n22
  have hbb2 : Below w.heap.size w w2 := by rw [← hg] at *; exact bthen b1 hb2
  cases hok : Lg.ok ⟨D, P, n⟩
  · have HK := Lib.hid (HV1.out (by rw [hok]; rfl))
    clear hok hoff hoff2 L1 E1 N1 L2 E2 N2
    go_wp2_with fail
    refine bodyPost_ret (v := .tuple #[.agg #[.string D, .string P, .int .i64 n], .int .i64 1]) (by simp [results, Tryd.results15, go_sem, *]) rfl ⟨by rw [HK.out.1, HK.out.2], ?_⟩
    refine hbb2.trans ?_
    repeat (first | exact Below.refl _ _ | refine Below.alloc ?_ (by simp; omega) _ | refine Below.setCell ?_ (by simp; omega) _)
  · have hof := hoff.1 hok
    clear hoff
    obtain ⟨k, hk⟩ : ∃ k : Nat, n = (k : Int) := ⟨_, hof.2.2.symm⟩
    have hk60 : k ≤ 60 := by have := hof.2.2; omega
    clear hoff2 hof
    subst hk
    go_wp2_with fail
    refine (HG.out _).mono ?_
    rintro en w3 ⟨rfl, hb3⟩
    clear c20 c21 c22 e20 e21 n20 n21 n22 f20 f21 f22 hl2 he2 hn2
    have L3 := L2.below hb3 L2.lt
    have E3 := E2.below hb3 E2.lt
    have N3 := N2.below hb3 N2.lt
    have c30 := L3.cell 0
    have c31 := L3.cell 1
    have c32 := L3.cell 2
    have e30 := E3.cell 0
    have e31 := E3.cell 1
    have n30 := N3.cell 0
    have n31 := N3.cell 1
    have n32 := N3.cell 2
    have f30 := N3.frozen 0
    have f31 := N3.frozen 1
    have f32 := N3.frozen 2
    have hl3 := L3.lt
    have he3 := E3.lt
    have hn3 := N3.lt
    simp only [List.getElem?_cons_zero, List.getElem?_cons_succ] at c30 c31 c32 e30 e31 n30 n31 n32
    have hbb3 : Below w.heap.size w w3 := bthen hbb2 hb3
    clear L1 E1 N1 L2 E2 N2
    cases hek : e.ok
    · have HK := Lib.hid (HV1.out (by rw [hok, hek]; rfl))
      clear hok hek L3 E3 N3
      go_wp2_with fail
      refine bodyPost_ret (v := .tuple #[.agg #[.string D, .string P, .int .i64 (k : Int)], .int .i64 1]) (by simp [results, Tryd.results15, go_sem, *]) rfl ⟨by rw [HK.out.1, HK.out.2], ?_⟩
      refine hbb3.trans ?_
      repeat (first | exact Below.refl _ _ | refine Below.alloc ?_ (by simp; omega) _ | refine Below.setCell ?_ (by simp; omega) _)
    · by_cases hfull : k = 60
      · have HK := Lib.hid (HV2.out (by rw [hok, hek]; rfl) (by simp [hfull]))
        have d1 : ((k : Int) == 60) = true := by rw [hfull]; rfl
        clear hok hek L3 E3 N3 hfull
        go_wp2_with fail
        refine bodyPost_ret (v := .tuple #[.agg #[.string D, .string P, .int .i64 (k : Int)], .int .i64 2]) (by simp [results, Tryd.results15, go_sem, *]) rfl ⟨by rw [HK.out.1, HK.out.2], ?_⟩
        refine hbb3.trans ?_
        repeat (first | exact Below.refl _ _ | refine Below.alloc ?_ (by simp; omega) _ | refine Below.setCell ?_ (by simp; omega) _)
      · have HK := Lib.hid (HV3.out (by rw [hok, hek]; rfl) (by simp; omega))
        have d1 : ((k : Int) == 60) = false := by simp; omega
        obtain ⟨ln, hln⟩ : ∃ ln : ByteArray, ln = ⟨(lineL k (bl e.c) (bl e.r)).toArray⟩ := ⟨_, rfl⟩
        have hlz : ln.size ≤ 100000000 := by rw [hln, ← bl_size, bl_mk]; have := line_len (k := k) (c := bl e.c) (r := bl e.r) hek (by omega); omega
        have HLn : Hid (∀ W, Calls Tryd.prog 49 #[.int .i64 (k : Int), e.val] W fun en w' => en = .returned (.string ln) ∧ Below W.heap.size W w') := fun W => by
          rw [hln]; exact l33Line_any k e W (by omega) (by have := (recOk_iff.1 hek).2.1; rw [bl_size] at this; omega) (by have := (recOk_iff.1 hek).2.2.2.2.2; rw [bl_size] at this; omega)
        have HK2 : Hid (appLg ⟨D, P, (k : Int)⟩ e = ⟨D, P ++ ln, (k : Int) + 1⟩ ∧ appCode ⟨D, P, (k : Int)⟩ e = 0) := by
          have h := HK.out
          rw [Int.toNat_natCast, ← hln] at h; exact h
        clear HK hok hek hln hfull HV1 HV2 HV3
        go_wp2_with fail
        have hgw : w.heap.size ≤ g := by omega
        refine wp_region_factsT (fun W9 => Lies W9 g 36 [.string D, .string P, .int .i64 (k : Int)] ∧ Lies W9 (g + 1) 45 [.string e.c, .string e.r] ∧ Lies W9 (g + 1 + 1) 36 [.string ⟨#[]⟩, .string ⟨#[]⟩, .int .i64 0] ∧ Below w.heap.size w W9) (fun _ _ => True) (by kernel_rfl) (by kernel_rfl) (by kernel_rfl) (by kernel_rfl) ⟨L3.below (Below.refl _ _).drew L3.lt, E3.below (Below.refl _ _).drew E3.lt, N3.below (Below.refl _ _).drew N3.lt, hbb3.drew⟩ ?_
        simp only [fillOps, Act.put, List.setIfInBounds_toArray, List.set_cons_zero, List.set_cons_succ, Nat.zero_add, Nat.reduceAdd]
        clear L3 E3 N3 c30 c31 c32 e30 e31 n30 n31 n32 f30 f31 f32 hl3 he3 hn3
        refine wpFactsT_val (.pointer (some ⟨g, 1, none⟩)) (fun vs w9 hC9 hB K9 hK9 => ?_) ?_
        · go_simp
          exact hK9 _ _ rfl hC9 trivial
        refine wpFactsT_val (.string P) (fun vs w9 hC9 hB K9 hK9 => ?_) ?_
        · have hd0 := hB 0 _ (by kernel_rfl) rfl
          simp only [hd0] at hK9 ⊢
          have q1 : w9.cell? ⟨g, 1, none⟩ = some (.string P) := hC9.1.cell 1
          go_simp
          exact hK9 _ _ rfl hC9 trivial
        refine wpFactsT_val (.pointer (some ⟨g, 2, none⟩)) (fun vs w9 hC9 hB K9 hK9 => ?_) ?_
        · go_simp
          exact hK9 _ _ rfl hC9 trivial
        refine wpFactsT_val (.int .i64 (k : Int)) (fun vs w9 hC9 hB K9 hK9 => ?_) ?_
        · have hd2 := hB 2 _ (by kernel_rfl) rfl
          simp only [hd2] at hK9 ⊢
          have q1 : w9.cell? ⟨g, 2, none⟩ = some (.int .i64 (k : Int)) := hC9.1.cell 2
          go_simp
          exact hK9 _ _ rfl hC9 trivial
        refine wpFactsT_val (.agg #[.string e.c, .string e.r]) (fun vs w9 hC9 hB K9 hK9 => ?_) ?_
        · have q0 : w9.cell? ⟨g + 1, 0, none⟩ = some (.string e.c) := hC9.2.1.cell 0
          have q1 : w9.cell? ⟨g + 1, 1, none⟩ = some (.string e.r) := hC9.2.1.cell 1
          go_simp
          exact hK9 _ _ rfl hC9 trivial
        refine wpFactsT_val (.string ln) (fun vs w9 hC9 hB K9 hK9 => ?_) ?_
        · have hd3 := hB 3 _ (by kernel_rfl) rfl
          have hd4 := hB 4 _ (by kernel_rfl) rfl
          simp only [hd3, hd4] at hK9 ⊢
          go_simp
          refine (HLn.out _).mono ?_
          rintro en w8 ⟨rfl, hb8⟩
          exact hK9 _ _ rfl ⟨hC9.1.below hb8 hC9.1.lt, hC9.2.1.below hb8 hC9.2.1.lt, hC9.2.2.1.below hb8 hC9.2.2.1.lt, hC9.2.2.2.trans (hb8.mono hC9.2.2.2.size)⟩ trivial
        refine wpFactsT_val (.string (P ++ ln)) (fun vs w9 hC9 hB K9 hK9 => ?_) ?_
        · have hd1 := hB 1 _ (by kernel_rfl) rfl
          have hd5 := hB 5 _ (by kernel_rfl) rfl
          simp only [hd1, hd5] at hK9 ⊢
          go_simp
          (first | (rw [if_neg (by omega)]; go_simp) | skip)
          exact hK9 _ _ rfl hC9 trivial
        refine wpFactsT_val (.pointer (some ⟨g, 1, none⟩)) (fun vs w9 hC9 hB K9 hK9 => ?_) ?_
        · go_simp
          exact hK9 _ _ rfl hC9 trivial
        refine wpFactsT_last (fun vs w9 hC9 hB K9 hK9 => ?_)
        have hd6 := hB 6 _ rfl
        have hd7 := hB 7 _ rfl
        simp only [hd6, hd7] at hK9 ⊢
        obtain ⟨L9, E9, N9, B9⟩ := hC9
        have c91 := L9.cell 1
        have f91 := L9.frozen 1
        simp only [List.getElem?_cons_zero, List.getElem?_cons_succ] at c91
        go_simp
        refine hK9 _ _ ?_
        have L4 := L9.set 1 (.string (P ++ ln))
        have E4 := E9.other (p := ⟨g, 1, none⟩) (by simp) (.string (P ++ ln))
        have N4 := N9.other (p := ⟨g, 1, none⟩) (by simp; omega) (.string (P ++ ln))
        have B4 := B9.setCell (p := ⟨g, 1, none⟩) hgw (.string (P ++ ln))
        generalize w9.setCell ⟨g, 1, none⟩ (.string (P ++ ln)) = w4 at L4 E4 N4 B4 ⊢
        simp only [List.set_cons_zero, List.set_cons_succ] at L4
        have ff2 := L4.frozen 2
        clear c91 f91 L9 E9 N9 B9 hB hK9
        have c40 := L4.cell 0
        have c41 := L4.cell 1
        have c42 := L4.cell 2
        have e40 := E4.cell 0
        have e41 := E4.cell 1
        have n40 := N4.cell 0
        have n41 := N4.cell 1
        have n42 := N4.cell 2
        have f40 := N4.frozen 0
        have f41 := N4.frozen 1
        have f42 := N4.frozen 2
        have hl4 := L4.lt
        have he4 := E4.lt
        have hn4 := N4.lt
        simp only [List.getElem?_cons_zero, List.getElem?_cons_succ] at c40 c41 c42 e40 e41 n40 n41 n42
        have hlt4 : (P ++ ln).size = P.size + ln.size := size_app _ _
        clear L4 E4 N4
        go_wp2_with fail
        refine bodyPost_ret (v := .tuple #[.agg #[.string D, .string (P ++ ln), .int .i64 ((k : Int) + 1)], .int .i64 0]) (by simp [results, Tryd.results15, go_sem, *]) rfl ⟨by rw [HK2.out.1, HK2.out.2], ?_⟩
        refine B4.trans ?_
        repeat (first | exact Below.refl _ _ | refine Below.alloc ?_ (by simp; omega) _ | refine Below.setCell ?_ (by simp; omega) _)

set_option maxRecDepth 100000 in
set_option maxHeartbeats 4000000 in
theorem implAppend_any (l : Lg) (e : Rec) (w : World) (hs : l.D.size + l.P.size ≤ 2000000) (h1 : e.c.size ≤ 1048576) (h2 : e.r.size ≤ 1048576) (ht : Tab w) :
    Calls Tryd.prog 14 #[l.val, e.val] w fun en w' => en = .returned (.tuple #[(appLg l e).val, .int .i64 (appCode l e)]) ∧ Below w.heap.size w w' := by
  obtain ⟨D, P, n⟩ := l
  simp only at hs
  have hoff := @logOk_iff (bl D) (bl P) n
  have hoff2 := openF_length 60 0 (bl D ++ bl P)
  have HV1 := Lib.hid (appLg_no (l := ⟨D, P, n⟩) (e := e))
  have HV2 := Lib.hid (appLg_full (l := ⟨D, P, n⟩) (e := e))
  have HV3 := Lib.hid (appLg_yes (l := ⟨D, P, n⟩) (e := e))
  have HS := Lib.hid (fun W hW => isLog_any ⟨D, P, n⟩ W hs hW)
  have HG := Lib.hid (fun W => isRecord_any e W (by omega) (by omega))
  have b1 := (((Below.refl w.heap.size w).alloc (Nat.le_refl _) (.cells #[.string D, .string P, .int .i64 n] 36)).alloc (by simp) (.cells #[.string e.c, .string e.r] 45)).alloc (by simp; omega) (.cells #[.string ⟨#[]⟩, .string ⟨#[]⟩, .int .i64 0] 36)
  have L1 := ((Lies.new w 36 #[.string D, .string P, .int .i64 n]).alloc (.cells #[.string e.c, .string e.r] 45)).alloc (.cells #[.string ⟨#[]⟩, .string ⟨#[]⟩, .int .i64 0] 36)
  have E1 := (Lies.new (w.alloc (.cells #[.string D, .string P, .int .i64 n] 36)) 45 #[.string e.c, .string e.r]).alloc (.cells #[.string ⟨#[]⟩, .string ⟨#[]⟩, .int .i64 0] 36)
  have N1 := Lies.new ((w.alloc (.cells #[.string D, .string P, .int .i64 n] 36)).alloc (.cells #[.string e.c, .string e.r] 45)) 36 #[.string ⟨#[]⟩, .string ⟨#[]⟩, .int .i64 0]
  have hg1 : (w.alloc (.cells #[.string D, .string P, .int .i64 n] 36)).heap.size = w.heap.size + 1 := by simp
  have hg2 : ((w.alloc (.cells #[.string D, .string P, .int .i64 n] 36)).alloc (.cells #[.string e.c, .string e.r] 45)).heap.size = w.heap.size + 2 := by simp
  rw [hg1] at E1
  rw [hg2] at N1
  have ht1 := ht.then b1
  clear hg1 hg2
  go_enter Tryd.func14, Tryd.ntmps14
  go_wp2_with fail
  generalize ((w.alloc (.cells #[.string D, .string P, .int .i64 n] 36)).alloc (.cells #[.string e.c, .string e.r] 45)).alloc (.cells #[.string ⟨#[]⟩, .string ⟨#[]⟩, .int .i64 0] 36) = W at ht1 b1 L1 E1 N1 ⊢
  generalize hg : w.heap.size = g at L1 E1 N1 ⊢
  refine (HS.out _ ht1).mono ?_
  rintro en w2 ⟨rfl, hb2⟩
  have L2 := L1.below hb2 L1.lt
  have E2 := E1.below hb2 E1.lt
  have N2 := N1.below hb2 N1.lt
  have c20 := L2.cell 0
  have c21 := L2.cell 1
  have c22 := L2.cell 2
  have e20 := E2.cell 0
  have e21 := E2.cell 1
  have n20 := N2.cell 0
  have n21 := N2.cell 1
  have n22 := N2.cell 2
  have f20 := N2.frozen 0
  have f21 := N2.frozen 1
  have f22 := N2.frozen 2
  have hl2 := L2.lt
  have he2 := E2.lt
  have hn2 := N2.lt
  simp only [List.getElem?_cons_zero, List.getElem?_cons_succ] at c20 c21 c22 e20 e21 n20 n21 n22
  have hbb2 : Below w.heap.size w w2 := by rw [← hg] at *; exact bthen b1 hb2
  cases hok : Lg.ok ⟨D, P, n⟩
  · have HK := Lib.hid (HV1.out (by rw [hok]; rfl))
    clear hok hoff hoff2 L1 E1 N1 L2 E2 N2
    go_wp2_with fail
    refine bodyPost_ret (v := .tuple #[.agg #[.string D, .string P, .int .i64 n], .int .i64 1]) (by simp [results, Tryd.results14, go_sem, *]) rfl ⟨by rw [HK.out.1, HK.out.2], ?_⟩
    refine hbb2.trans ?_
    repeat (first | exact Below.refl _ _ | refine Below.alloc ?_ (by simp; omega) _ | refine Below.setCell ?_ (by simp; omega) _)
  · have hof := hoff.1 hok
    clear hoff
    obtain ⟨k, hk⟩ : ∃ k : Nat, n = (k : Int) := ⟨_, hof.2.2.symm⟩
    have hk60 : k ≤ 60 := by have := hof.2.2; omega
    clear hoff2 hof
    subst hk
    go_wp2_with fail
    refine (HG.out _).mono ?_
    rintro en w3 ⟨rfl, hb3⟩
    clear c20 c21 c22 e20 e21 n20 n21 n22 f20 f21 f22 hl2 he2 hn2
    have L3 := L2.below hb3 L2.lt
    have E3 := E2.below hb3 E2.lt
    have N3 := N2.below hb3 N2.lt
    have c30 := L3.cell 0
    have c31 := L3.cell 1
    have c32 := L3.cell 2
    have e30 := E3.cell 0
    have e31 := E3.cell 1
    have n30 := N3.cell 0
    have n31 := N3.cell 1
    have n32 := N3.cell 2
    have f30 := N3.frozen 0
    have f31 := N3.frozen 1
    have f32 := N3.frozen 2
    have hl3 := L3.lt
    have he3 := E3.lt
    have hn3 := N3.lt
    simp only [List.getElem?_cons_zero, List.getElem?_cons_succ] at c30 c31 c32 e30 e31 n30 n31 n32
    have hbb3 : Below w.heap.size w w3 := bthen hbb2 hb3
    clear L1 E1 N1 L2 E2 N2
    cases hek : e.ok
    · have HK := Lib.hid (HV1.out (by rw [hok, hek]; rfl))
      clear hok hek L3 E3 N3
      go_wp2_with fail
      refine bodyPost_ret (v := .tuple #[.agg #[.string D, .string P, .int .i64 (k : Int)], .int .i64 1]) (by simp [results, Tryd.results14, go_sem, *]) rfl ⟨by rw [HK.out.1, HK.out.2], ?_⟩
      refine hbb3.trans ?_
      repeat (first | exact Below.refl _ _ | refine Below.alloc ?_ (by simp; omega) _ | refine Below.setCell ?_ (by simp; omega) _)
    · by_cases hfull : k = 60
      · have HK := Lib.hid (HV2.out (by rw [hok, hek]; rfl) (by simp [hfull]))
        have d1 : ((k : Int) == 60) = true := by rw [hfull]; rfl
        clear hok hek L3 E3 N3 hfull
        go_wp2_with fail
        refine bodyPost_ret (v := .tuple #[.agg #[.string D, .string P, .int .i64 (k : Int)], .int .i64 2]) (by simp [results, Tryd.results14, go_sem, *]) rfl ⟨by rw [HK.out.1, HK.out.2], ?_⟩
        refine hbb3.trans ?_
        repeat (first | exact Below.refl _ _ | refine Below.alloc ?_ (by simp; omega) _ | refine Below.setCell ?_ (by simp; omega) _)
      · have HK := Lib.hid (HV3.out (by rw [hok, hek]; rfl) (by simp; omega))
        have d1 : ((k : Int) == 60) = false := by simp; omega
        obtain ⟨ln, hln⟩ : ∃ ln : ByteArray, ln = ⟨(lineL k (bl e.c) (bl e.r)).toArray⟩ := ⟨_, rfl⟩
        have hlz : ln.size ≤ 100000000 := by rw [hln, ← bl_size, bl_mk]; have := line_len (k := k) (c := bl e.c) (r := bl e.r) hek (by omega); omega
        have HLn : Hid (∀ W, Tab W → Calls Tryd.prog 46 #[.int .i64 (k : Int), e.val] W fun en w' => en = .returned (.string ln) ∧ Below W.heap.size W w') := fun W hW => by
          rw [hln]; exact encodeRecord_any k e W (by omega) hek hW
        have HK2 : Hid (appLg ⟨D, P, (k : Int)⟩ e = ⟨D, P ++ ln, (k : Int) + 1⟩ ∧ appCode ⟨D, P, (k : Int)⟩ e = 0) := by
          have h := HK.out
          rw [Int.toNat_natCast, ← hln] at h; exact h
        clear HK hok hek hln hfull HV1 HV2 HV3
        go_wp2_with fail
        have hgw : w.heap.size ≤ g := by omega
        refine wp_region_factsT (fun W9 => Lies W9 g 36 [.string D, .string P, .int .i64 (k : Int)] ∧ Lies W9 (g + 1) 45 [.string e.c, .string e.r] ∧ Lies W9 (g + 1 + 1) 36 [.string ⟨#[]⟩, .string ⟨#[]⟩, .int .i64 0] ∧ Below w.heap.size w W9) (fun _ _ => True) (by kernel_rfl) (by kernel_rfl) (by kernel_rfl) (by kernel_rfl) ⟨L3.below (Below.refl _ _).drew L3.lt, E3.below (Below.refl _ _).drew E3.lt, N3.below (Below.refl _ _).drew N3.lt, hbb3.drew⟩ ?_
        simp only [fillOps, Act.put, List.setIfInBounds_toArray, List.set_cons_zero, List.set_cons_succ, Nat.zero_add, Nat.reduceAdd]
        clear L3 E3 N3 c30 c31 c32 e30 e31 n30 n31 n32 f30 f31 f32 hl3 he3 hn3
        refine wpFactsT_val (.pointer (some ⟨g, 1, none⟩)) (fun vs w9 hC9 hB K9 hK9 => ?_) ?_
        · go_simp
          exact hK9 _ _ rfl hC9 trivial
        refine wpFactsT_val (.string P) (fun vs w9 hC9 hB K9 hK9 => ?_) ?_
        · have hd0 := hB 0 _ (by kernel_rfl) rfl
          simp only [hd0] at hK9 ⊢
          have q1 : w9.cell? ⟨g, 1, none⟩ = some (.string P) := hC9.1.cell 1
          go_simp
          exact hK9 _ _ rfl hC9 trivial
        refine wpFactsT_val (.pointer (some ⟨g, 2, none⟩)) (fun vs w9 hC9 hB K9 hK9 => ?_) ?_
        · go_simp
          exact hK9 _ _ rfl hC9 trivial
        refine wpFactsT_val (.int .i64 (k : Int)) (fun vs w9 hC9 hB K9 hK9 => ?_) ?_
        · have hd2 := hB 2 _ (by kernel_rfl) rfl
          simp only [hd2] at hK9 ⊢
          have q1 : w9.cell? ⟨g, 2, none⟩ = some (.int .i64 (k : Int)) := hC9.1.cell 2
          go_simp
          exact hK9 _ _ rfl hC9 trivial
        refine wpFactsT_val (.agg #[.string e.c, .string e.r]) (fun vs w9 hC9 hB K9 hK9 => ?_) ?_
        · have q0 : w9.cell? ⟨g + 1, 0, none⟩ = some (.string e.c) := hC9.2.1.cell 0
          have q1 : w9.cell? ⟨g + 1, 1, none⟩ = some (.string e.r) := hC9.2.1.cell 1
          go_simp
          exact hK9 _ _ rfl hC9 trivial
        refine wpFactsT_val (.string ln) (fun vs w9 hC9 hB K9 hK9 => ?_) ?_
        · have hd3 := hB 3 _ (by kernel_rfl) rfl
          have hd4 := hB 4 _ (by kernel_rfl) rfl
          simp only [hd3, hd4] at hK9 ⊢
          go_simp
          refine (HLn.out _ (ht.then hC9.2.2.2)).mono ?_
          rintro en w8 ⟨rfl, hb8⟩
          exact hK9 _ _ rfl ⟨hC9.1.below hb8 hC9.1.lt, hC9.2.1.below hb8 hC9.2.1.lt, hC9.2.2.1.below hb8 hC9.2.2.1.lt, hC9.2.2.2.trans (hb8.mono hC9.2.2.2.size)⟩ trivial
        refine wpFactsT_val (.string (P ++ ln)) (fun vs w9 hC9 hB K9 hK9 => ?_) ?_
        · have hd1 := hB 1 _ (by kernel_rfl) rfl
          have hd5 := hB 5 _ (by kernel_rfl) rfl
          simp only [hd1, hd5] at hK9 ⊢
          go_simp
          (first | (rw [if_neg (by omega)]; go_simp) | skip)
          exact hK9 _ _ rfl hC9 trivial
        refine wpFactsT_val (.pointer (some ⟨g, 1, none⟩)) (fun vs w9 hC9 hB K9 hK9 => ?_) ?_
        · go_simp
          exact hK9 _ _ rfl hC9 trivial
        refine wpFactsT_last (fun vs w9 hC9 hB K9 hK9 => ?_)
        have hd6 := hB 6 _ rfl
        have hd7 := hB 7 _ rfl
        simp only [hd6, hd7] at hK9 ⊢
        obtain ⟨L9, E9, N9, B9⟩ := hC9
        have c91 := L9.cell 1
        have f91 := L9.frozen 1
        simp only [List.getElem?_cons_zero, List.getElem?_cons_succ] at c91
        go_simp
        refine hK9 _ _ ?_
        have L4 := L9.set 1 (.string (P ++ ln))
        have E4 := E9.other (p := ⟨g, 1, none⟩) (by simp) (.string (P ++ ln))
        have N4 := N9.other (p := ⟨g, 1, none⟩) (by simp; omega) (.string (P ++ ln))
        have B4 := B9.setCell (p := ⟨g, 1, none⟩) hgw (.string (P ++ ln))
        generalize w9.setCell ⟨g, 1, none⟩ (.string (P ++ ln)) = w4 at L4 E4 N4 B4 ⊢
        simp only [List.set_cons_zero, List.set_cons_succ] at L4
        have ff2 := L4.frozen 2
        clear c91 f91 L9 E9 N9 B9 hB hK9
        have c40 := L4.cell 0
        have c41 := L4.cell 1
        have c42 := L4.cell 2
        have e40 := E4.cell 0
        have e41 := E4.cell 1
        have n40 := N4.cell 0
        have n41 := N4.cell 1
        have n42 := N4.cell 2
        have f40 := N4.frozen 0
        have f41 := N4.frozen 1
        have f42 := N4.frozen 2
        have hl4 := L4.lt
        have he4 := E4.lt
        have hn4 := N4.lt
        simp only [List.getElem?_cons_zero, List.getElem?_cons_succ] at c40 c41 c42 e40 e41 n40 n41 n42
        have hlt4 : (P ++ ln).size = P.size + ln.size := size_app _ _
        clear L4 E4 N4
        go_wp2_with fail
        refine bodyPost_ret (v := .tuple #[.agg #[.string D, .string (P ++ ln), .int .i64 ((k : Int) + 1)], .int .i64 0]) (by simp [results, Tryd.results14, go_sem, *]) rfl ⟨by rw [HK2.out.1, HK2.out.2], ?_⟩
        refine B4.trans ?_
        repeat (first | exact Below.refl _ _ | refine Below.alloc ?_ (by simp; omega) _ | refine Below.setCell ?_ (by simp; omega) _)

end Go.Proofs.YtojceibamgodbaaDoor
