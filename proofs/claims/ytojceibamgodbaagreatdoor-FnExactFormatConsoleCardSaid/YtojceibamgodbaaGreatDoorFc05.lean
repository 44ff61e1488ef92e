/- Fc05: the texts LogS Open RecTo LgTo ConTo FmtP FmtI FactsN FactsR Grown FmtS, joined into one file. -/
import Derived.ProofKit
import Derived.ChangeOld
import Derived.ShutString
import Derived.OpenShut
import Derived.Deep.Slices
import Derived.Deep.Fields
import Derived.Deep.DeepCutAuto
import Derived.Test.YtojceibamgodbaaGreatDoorFc01
import Derived.Test.YtojceibamgodbaaGreatDoorFc02
import Derived.Test.YtojceibamgodbaaGreatDoorFc03
import Derived.Test.YtojceibamgodbaaGreatDoorFc04

set_option linter.unusedVariables false

/- Whether a log is valid, in the reference. -/
namespace Go.Proofs.YtojceibamgodbaaGreatDoor
open Go.RowKit

set_option maxRecDepth 100000 in
set_option maxHeartbeats 4000000 in
theorem l33Log_any (l : Lg) (w : World) (hs : l.D.size + l.P.size ≤ 2000000) :
    Calls Tryz.prog 24 #[l.val] w fun e w' => e = .returned (.bool l.ok) ∧ Below w.heap.size w w' := by
  have b1 := (Below.refl w.heap.size w).alloc (Nat.le_refl _) (.cells #[.string l.D, .string l.P, .int .i64 l.n] 37)
  have L1 := Lies.new w 37 #[.string l.D, .string l.P, .int .i64 l.n]
  have hbl : bl (l.D ++ l.P) = bl l.D ++ bl l.P := bl_app _ _
  have hz : (l.D ++ l.P).size = l.D.size + l.P.size := size_app _ _
  have hok := @logOk_iff (bl l.D) (bl l.P) l.n
  rw [← hbl] at hok
  rw [bl_size, bl_size] at hok
  by_cases hbig : 30000 < l.D.size + l.P.size
  · have HOK : Hid (l.ok = false) := by
      unfold Hid Lg.ok
      rw [Bool.eq_false_iff]
      intro h
      have h1 := logOk_small (by rw [← hbl, bl_size, bl_size]; exact (hok.1 h).1)
      rw [bl_size, bl_size] at h1; omega
    have d0 : decide (30000 < (l.D.size : Int) + (l.P.size : Int)) = true := decide_eq_true (by omega)
    clear hok hbig
    go_enter Tryz.func24, Tryz.ntmps24
    go_wp2_with fail
    go_ret
    exact ⟨by rw [HOK.out]; rfl, b1⟩
  · have d0 : decide (30000 < (l.D.size : Int) + (l.P.size : Int)) = false := decide_eq_false (by omega)
    have hs3 : l.D.size + l.P.size ≤ 30000 := by omega
    have HA := Lib.hid (fun W => l33Open_any (l.D ++ l.P) W (by omega))
    have HB := Lib.hid (fun W => l33Open_any l.D W (by omega))
    have hlen := openF_length 60 0 (bl (l.D ++ l.P))
    have hroom := openF_room 60 0 (bl (l.D ++ l.P))
    have hroomD := openF_room 60 0 (bl l.D)
    rw [bl_size] at hroom hroomD
    obtain ⟨k0, hk0⟩ : ∃ k0, k0 = (openF 60 0 (bl (l.D ++ l.P))).length := ⟨_, rfl⟩
    obtain ⟨z, hzz⟩ : ∃ z, z = lens (openF 60 0 (bl (l.D ++ l.P))) := ⟨_, rfl⟩
    obtain ⟨y, hyy⟩ : ∃ y, y = lens (openF 60 0 (bl l.D)) := ⟨_, rfl⟩
    have HA2 : Hid (∀ W, Calls Tryz.prog 39 #[.string (l.D ++ l.P)] W fun e w' => ∃ A c k, k = k0 ∧ e = .returned (.tuple #[.slice A k c, .int .i64 (z : Nat)]) ∧ Below W.heap.size W w') := fun W => by
      refine (HA.out W).mono ?_
      rintro e w' ⟨A, c, m, rfl, hm, _, hb⟩
      exact ⟨A, c, m.length, by rw [recsOf_len hm, hk0], by rw [hzz], hb⟩
    have HB2 : Hid (∀ W, Calls Tryz.prog 39 #[.string l.D] W fun e w' => ∃ A c k, e = .returned (.tuple #[.slice A k c, .int .i64 (y : Nat)]) ∧ Below W.heap.size W w') := fun W => by
      refine (HB.out W).mono ?_
      rintro e w' ⟨A, c, m, rfl, hm, _, hb⟩
      exact ⟨A, c, m.length, by rw [hyy], hb⟩
    rw [← hk0, ← hzz, ← hyy] at hok
    rw [← hk0] at hlen
    rw [← hzz] at hroom
    rw [← hyy] at hroomD
    have HOK : Hid (l.ok = (decide (z = l.D.size + l.P.size) && decide (y = l.D.size) && decide ((k0 : Int) = l.n))) := by
      unfold Hid Lg.ok
      rw [Bool.eq_iff_iff, hok]
      simp [and_assoc]
    clear hok hbl hk0 hzz hyy HA HB hbig
    go_enter Tryz.func24, Tryz.ntmps24
    go_wp2_with fail
    generalize w.alloc (.cells #[.string l.D, .string l.P, .int .i64 l.n] 37) = W at b1 L1 ⊢
    generalize hg : w.heap.size = g at L1 ⊢
    refine (HA2.out _).mono ?_
    rintro e w2 ⟨A, c, k, rfl, rfl, hb2⟩
    have L2 := L1.below hb2 L1.lt
    have c0 := L2.cell 0
    have c1 := L2.cell 1
    have c2 := L2.cell 2
    simp only [List.getElem?_cons_zero, List.getElem?_cons_succ] at c0 c1 c2
    clear L1
    go_wp2_with fail
    refine (HB2.out _).mono ?_
    rintro e w3 ⟨A', c', k', rfl, hb3⟩
    have L3 := L2.below hb3 L2.lt
    clear c0 c1 c2
    have c0 := L3.cell 0
    have c1 := L3.cell 1
    have c2 := L3.cell 2
    simp only [List.getElem?_cons_zero, List.getElem?_cons_succ] at c0 c1 c2
    have hbb : Below w.heap.size w w3 := by rw [← hg] at *; exact bthen b1 (bthen hb2 hb3)
    clear L2 L3
    by_cases e1 : z = l.D.size + l.P.size
    · rw [decide_eq_true e1] at HOK
      have d1 : ((z : Int) == (l.D.size : Int) + (l.P.size : Int)) = true := by rw [e1]; simp
      by_cases e2 : y = l.D.size
      · rw [decide_eq_true e2] at HOK
        have d2 : ((y : Int) == (l.D.size : Int)) = true := by rw [e2]; simp
        by_cases e3 : (k : Int) = l.n
        · rw [decide_eq_true e3] at HOK
          have d3 : ((k : Int) == l.n) = true := by rw [e3]; simp
          clear e1 e2 e3
          go_wp2_with fail
          go_ret
          exact ⟨by rw [HOK.out]; rfl, hbb⟩
        · rw [decide_eq_false e3] at HOK
          have d3 : ((k : Int) == l.n) = false := by simp [e3]
          clear e1 e2 e3
          go_wp2_with fail
          go_ret
          exact ⟨by rw [HOK.out]; rfl, hbb⟩
      · rw [decide_eq_false e2] at HOK
        have d2 : ((y : Int) == (l.D.size : Int)) = false := by simp; omega
        clear e1 e2
        go_wp2_with fail
        go_ret
        exact ⟨by rw [HOK.out]; rfl, hbb⟩
    · rw [decide_eq_false e1] at HOK
      have d1 : ((z : Int) == (l.D.size : Int) + (l.P.size : Int)) = false := by simp; omega
      clear e1
      go_wp2_with fail
      go_ret
      exact ⟨by rw [HOK.out]; rfl, hbb⟩
end Go.Proofs.YtojceibamgodbaaGreatDoor

/- Arguments that came in: from the reader's own reading to plain words (no program in sight). -/
namespace Go.Proofs.YtojceibamgodbaaGreatDoor
open Go.ChangeShapes Go.WideShapes Go.ChangeAt Go.RowKit Go.Deep

section
variable {H : Type} {enc : TypeId × Value → H} {P : Program} {w : World} {base : Nat} {spare : Nat → Bool} {held : Bool}

/-- The fields of a struct of one-cell fields: place by place. -/
theorem trod_fields {e : TypeId} {fs : Array Field} {n : Nat} {cs : List Value} {x : DataW H × List MemPlace} (he : P.underlying e = some (.struct fs)) (hone : oneCellFields P fs = true) (hC : P.cellsOf e = fs.size)
    (h : DataW.trod enc P w base spare held n e cs = some x) :
    cs.length = fs.size ∧ ∀ (j : Nat) (f : Field), fs[j]? = some f → ∃ v m y, cs[j]? = some v ∧ DataW.trod enc P w base spare held m f.type [v] = some y := by
  obtain ⟨ys, n', _, _, hlen, hyl, hf⟩ := DataW.trod_struct he h
  refine ⟨by rw [hlen, hC], fun j f hj => ?_⟩
  obtain ⟨ho, hk⟩ := hone_of hone j f hj
  have hjl : j < fs.size := (Array.getElem?_eq_some_iff.1 hj).1
  have hjc : j < cs.length := by rw [hlen, hC]; exact hjl
  have h1 := hf j f hj
  rw [ho, hk, List.drop_eq_getElem_cons hjc] at h1
  have hys : ys[j]? = some (ys[j]'(by omega)) := List.getElem?_eq_getElem (by omega)
  exact ⟨_, n', _, List.getElem?_eq_getElem hjc, h1.trans hys⟩

theorem cell_spot {w : World} {a : Addr} {u : Value} (h : w.cell? a = some u) : ∃ b off, a = ⟨b, off, none⟩ ∧ b < w.heap.size := by
  obtain ⟨b, off, sp⟩ := a
  cases sp with
  | none => exact ⟨b, off, rfl, block_lt_of_cell h⟩
  | some s =>
    simp only [World.cell?] at h
    split at h <;> simp_all

/-- A slice that came in, whatever its elements: k cells each; what the reader knows of an element's cells. -/
theorem trod_slc {t e : TypeId} {k n : Nat} {v : Value} {x : DataW H × List MemPlace} (ht : P.underlying t = some (.slice e)) (hk : P.cellsOf e = k) (hk0 : 0 < k)
    (h : DataW.trod enc P w base spare held n t [v] = some x) :
    ∃ A len cap, v = .slice A len cap ∧ ∃ css : List (List Value), css.length = len ∧ SlcR w w.heap.size k A len css.flatten ∧
      ∀ cs ∈ css, cs.length = k ∧ ∃ m y, DataW.trod enc P w base spare held m e cs = some y := by
  rcases open_slice ht h with ⟨h0, _⟩ | ⟨a, len, cap, m, n', D, Pl, hcs, hb, hl, hm, hmm, hx, hi⟩
  · have : v = .slice none 0 0 := by simpa using h0
    exact ⟨none, 0, 0, this, [], rfl, SlcR.nil _ _ _ _, by simp⟩
  · have hv : v = .slice (some a) len cap := by simpa using hcs
    have hle : len ≤ m := by rw [hmm]; split <;> omega
    rw [hk] at hi
    have hsel : ∀ i : Nat, ∃ cs : List Value, cs.length = k ∧ (i < len → (∀ j u, cs[j]? = some u → w.cell? ((a.add (i * k)).add j) = some u) ∧ ∃ m y, DataW.trod enc P w base spare held m e cs = some y) := fun i => by
      by_cases hlt : i < len
      · obtain ⟨cs', hc, ht'⟩ := hi i (by omega)
        obtain ⟨_, hcl, hat⟩ := World.cells?_some hc
        exact ⟨cs', hcl, fun _ => ⟨fun j u hu => by
          have hj : j < cs'.length := (List.getElem?_eq_some_iff.1 hu).1
          rw [hat j (by omega), hu], _, _, ht'⟩⟩
      · exact ⟨List.replicate k undef, by simp, fun h => absurd h hlt⟩
    obtain ⟨f, hf⟩ := Classical.axiomOfChoice hsel
    have hfk : ∀ i, (f i).length = k := fun i => (hf i).1
    have hlen := flat_len f k hfk (List.range len)
    rw [List.length_range, List.flatMap_def] at hlen
    refine ⟨some a, len, cap, hv, (List.range len).map f, by simp, ⟨hlen, by unfold maxLen at hm; omega, fun hpos => ?_⟩, ?_⟩
    · have h00 : (f 0)[0]? = some ((f 0)[0]'(by rw [hfk]; exact hk0)) := List.getElem?_eq_getElem _
      have hc0 := ((hf 0).2 hpos).1 0 _ h00
      rw [Nat.zero_mul] at hc0
      obtain ⟨b, off, rfl, hb'⟩ := cell_spot (a := a) hc0
      refine ⟨b, off, rfl, hb', fun j u hu => ?_⟩
      have hj : j < len * k := by rw [← hlen]; exact (List.getElem?_eq_some_iff.1 hu).1
      have hi' : j / k < len := Nat.div_lt_of_lt_mul (by rw [Nat.mul_comm]; exact hj)
      have hr : j % k < k := Nat.mod_lt _ hk0
      have e : j = j / k * k + j % k := by rw [Nat.mul_comm]; exact (Nat.div_add_mod j k).symm
      have hat := flat_at f k hfk (List.range len) (j / k) (by simpa using hi') (j % k) hr
      rw [List.flatMap_def, ← e, List.getElem_range, hu] at hat
      have hc := ((hf (j / k)).2 hi').1 (j % k) u hat.symm
      have hadd : ((⟨b, off, none⟩ : Addr).add (j / k * k)).add (j % k) = ⟨b, off + j, none⟩ := by
        unfold Addr.add
        by_cases h1 : j / k * k = 0 <;> by_cases h2 : j % k = 0 <;> simp [h1, h2] <;> omega
      rw [hadd] at hc
      exact hc
    · intro cs hcs
      obtain ⟨i, hi, rfl⟩ := List.mem_map.1 hcs
      exact ⟨hfk i, ((hf i).2 (List.mem_range.1 hi)).2⟩
end

/-- A list of lists of cells, each the image of something. -/
theorem lift_list {α : Type} (enc : α → List Value) : ∀ css : List (List Value), (∀ cs ∈ css, ∃ x, cs = enc x) → ∃ l : List α, css.flatten = l.flatMap enc ∧ l.length = css.length
  | [], _ => ⟨[], rfl, rfl⟩
  | cs :: css, h => by
    obtain ⟨x, hx⟩ := h cs (by simp)
    obtain ⟨l, hl, hn⟩ := lift_list enc css (fun c hc => h c (by simp [hc]))
    exact ⟨x :: l, by simp [hl, hx], by simp [hn]⟩

section
variable {H : Type} {enc : TypeId × Value → H} {P : Program} {w : World} {base : Nat} {spare : Nat → Bool} {held : Bool}
/-- A field that is an int. -/
theorem trod_i64 {t : TypeId} {n : Nat} {v : Value} {x : DataW H × List MemPlace} (ht : P.underlying t = some (.int .i64)) (h : DataW.trod enc P w base spare held n t [v] = some x) :
    ∃ m : Int, v = .int .i64 m ∧ -9223372036854775808 ≤ m ∧ m ≤ 9223372036854775807 := by
  obtain ⟨m, e, _, hw⟩ := DataW.trod_int ht h
  refine ⟨m, by simpa using e, ?_⟩
  simp [Lit.wf, IntKind.min, IntKind.max, IntKind.signed, IntKind.bits] at hw
  omega
end

/-- Structs of ints alone. -/
def intFields (P : Program) (fs : Array Field) : Bool := fs.all fun f => match P.underlying f.type with | some (.int .i64) => true | _ => false
theorem intFields_at {P : Program} {fs : Array Field} (h : intFields P fs = true) (j : Nat) (f : Field) (hj : fs[j]? = some f) : P.underlying f.type = some (.int .i64) := by
  have := (Array.all_eq_true_iff_forall_mem.1 h) f (Array.mem_of_getElem? hj)
  split at this
  · assumption
  · cases this

section
variable {H : Type} {enc : TypeId × Value → H} {P : Program} {w : World} {base : Nat} {spare : Nat → Bool} {held : Bool}
theorem trod_int_cells {e : TypeId} {fs : Array Field} {n k : Nat} {cs : List Value} {x : DataW H × List MemPlace} (he : P.underlying e = some (.struct fs)) (hone : oneCellFields P fs = true) (hC : P.cellsOf e = fs.size) (hint : intFields P fs = true) (hk : fs.size = k)
    (h : DataW.trod enc P w base spare held n e cs = some x) : ∃ ns : List Int, ns.length = k ∧ cs = ns.map (Value.int .i64) := by
  obtain ⟨hl, hf⟩ := trod_fields he hone hC h
  subst hk
  refine ⟨cs.map fun v => match v with | .int _ m => m | _ => 0, by simpa using hl, List.ext_getElem? fun j => ?_⟩
  rw [List.getElem?_map, List.getElem?_map]
  by_cases hj : j < cs.length
  · obtain ⟨v, m, y, hv, hy⟩ := hf j (fs[j]'(by omega)) (Array.getElem?_eq_getElem (by omega))
    obtain ⟨z, rfl, _, _⟩ := trod_i64 (intFields_at hint j _ (Array.getElem?_eq_getElem (by omega))) hy
    rw [hv]; rfl
  · rw [List.getElem?_eq_none (by omega)]; rfl

/-- A struct of ints, by value. -/
theorem open_int_struct {t : TypeId} {fs : Array Field} {k b0 : Nat} {r : Reach} {v : Value} {d : DataW H} {p : List MemPlace} (he : P.underlying t = some (.struct fs)) (hone : oneCellFields P fs = true) (hC : P.cellsOf t = fs.size) (hint : intFields P fs = true) (hk : fs.size = k)
    (hv : Value.okWide P w r b0 t v) (h : DataW.Trod enc P w base spare held t v d p) : ∃ ns : List Int, ns.length = k ∧ v = .agg (ns.map (Value.int .i64)).toArray := by
  obtain ⟨cs, rfl, hsz⟩ := okWide_struct he hv
  obtain ⟨n, hn⟩ := h
  obtain ⟨ns, hl, hc⟩ := trod_int_cells he hone hC hint hk hn
  refine ⟨ns, hl, ?_⟩
  rw [← hc]; simp [Value.cells]

/-- A slice of structs of ints. -/
theorem open_int_structs {α : Type} (en : α → List Value) {t e : TypeId} {fs : Array Field} {k b0 : Nat} {r : Reach} {v : Value} {d : DataW H} {p : List MemPlace} (ht : P.underlying t = some (.slice e)) (he : P.underlying e = some (.struct fs)) (hone : oneCellFields P fs = true) (hC : P.cellsOf e = fs.size) (hint : intFields P fs = true) (hk : fs.size = k) (hk0 : 0 < k)
    (hen : ∀ ns : List Int, ns.length = k → ∃ x, ns.map (Value.int .i64) = en x)
    (hv : Value.okWide P w r b0 t v) (h : DataW.Trod enc P w base spare held t v d p) : ∃ A c, ∃ l : List α, v = .slice A l.length c ∧ SlcR w w.heap.size k A l.length (l.flatMap en) := by
  obtain ⟨A, len, cap, rfl⟩ := okWide_slice ht hv
  obtain ⟨n, hn⟩ := h
  obtain ⟨A', len', cap', e', css, hl, hS, hcs⟩ := trod_slc ht (hC.trans hk) hk0 hn
  injection e' with e1 e2 e3
  subst e1; subst e2; subst e3
  obtain ⟨l, hfl, hll⟩ := lift_list en css (fun cs hc => by
    obtain ⟨hlen, m, y, hy⟩ := hcs cs hc
    obtain ⟨ns, hn', hc'⟩ := trod_int_cells he hone hC hint hk hy
    obtain ⟨x, hx⟩ := hen ns hn'
    exact ⟨x, by rw [hc', hx]⟩)
  refine ⟨A, cap, l, by rw [hll, hl], ?_⟩
  rw [hll, hl, ← hfl]; exact hS
end
theorem i64_lo {n : Int} (h : (Lit.int .i64 n).wf = true) : -9223372036854775808 ≤ n := by
  simp [Lit.wf, IntKind.min, IntKind.max, IntKind.signed, IntKind.bits] at h; omega
theorem i64_hi {n : Int} (h : (Lit.int .i64 n).wf = true) : n ≤ 9223372036854775807 := by
  simp [Lit.wf, IntKind.min, IntKind.max, IntKind.signed, IntKind.bits] at h; omega
end Go.Proofs.YtojceibamgodbaaGreatDoor

/- Records in the laws: size, copy; arguments that came in. -/
namespace Go.Proofs.YtojceibamgodbaaGreatDoor
open Go.RowKit

def Rec.need (e : Rec) : Nat := e.c.size + e.r.size
def lessR (k : Int) (n : Nat) : Int := if (n : Int) ≤ k then k - n else -1
end Go.Proofs.YtojceibamgodbaaGreatDoor

/- Logs in the laws: size, copy, likeness. -/
namespace Go.Proofs.YtojceibamgodbaaGreatDoor
open Go.RowKit

def Lg.need (l : Lg) : Nat := l.D.size + l.P.size
theorem lessR_le {n : Nat} {k : Int} (h : (n : Int) ≤ k) : lessR k n = k - n := by unfold lessR; rw [if_pos h]
theorem lessR_gt {n : Nat} {k : Int} (h : ¬ (n : Int) ≤ k) : lessR k n = -1 := by unfold lessR; rw [if_neg h]

set_option maxHeartbeats 1000000 in
theorem szLog_any (l : Lg) (k : Int) (w : World) (h1 : l.D.size ≤ 9223372036854775807) (h2 : l.P.size ≤ 9223372036854775807) (hk : 0 ≤ k) (hk' : k ≤ 1048576) :
    Calls Tryz.prog 10 #[l.val, .int .i64 k] w fun en w' => en = .returned (.int .i64 (lessR k l.need)) ∧ Below w.heap.size w w' := by
  have hb0 := (Below.refl w.heap.size w).alloc (Nat.le_refl _) (.cells #[.string l.D, .string l.P, .int .i64 l.n] 27)
  by_cases ha : (l.D.size : Int) ≤ k
  · have d1 : decide (k - (l.D.size : Int) < 0) = false := decide_eq_false (by omega)
    by_cases hb : (l.D.size : Int) + l.P.size ≤ k
    · have d2 : decide (k - (l.D.size : Int) - (l.P.size : Int) < 0) = false := decide_eq_false (by omega)
      have HN : Hid (lessR k l.need = k - (l.D.size : Int) - (l.P.size : Int)) := by unfold lessR Lg.need Hid; rw [if_pos (by omega)]; omega
      clear hb
      go_enter Tryz.func10, Tryz.ntmps10
      go_wp2
      go_ret
      exact ⟨by rw [HN.out]; rfl, hb0⟩
    · have d2 : decide (k - (l.D.size : Int) - (l.P.size : Int) < 0) = true := decide_eq_true (by omega)
      have HN : Hid (lessR k l.need = -1) := by unfold lessR Lg.need Hid; rw [if_neg (by omega)]
      clear hb
      go_enter Tryz.func10, Tryz.ntmps10
      go_wp2
      go_ret
      exact ⟨by rw [HN.out]; rfl, hb0⟩
  · have d1 : decide (k - (l.D.size : Int) < 0) = true := decide_eq_true (by omega)
    have HN : Hid (lessR k l.need = -1) := by unfold lessR Lg.need Hid; rw [if_neg (by omega)]
    clear ha
    go_enter Tryz.func10, Tryz.ntmps10
    go_wp2
    go_ret
    exact ⟨by rw [HN.out]; rfl, hb0⟩

set_option maxHeartbeats 1000000 in
theorem toLog_any (l : Lg) (w : World) :
    Calls Tryz.prog 15 #[l.val] w fun en w' => en = .returned l.val ∧ Below w.heap.size w w' := by
  go_enter Tryz.func15, Tryz.ntmps15
  go_wp2
  refine bodyPost_ret (v := l.val) (by simp [results, Tryz.results15, go_sem, *]) rfl ⟨rfl, ?_⟩
  repeat (first | exact Below.refl _ _ | refine Below.alloc ?_ (by simp; try omega) _ | refine Below.setCell ?_ (by simp; try omega) _)

set_option maxHeartbeats 1000000 in
theorem eqLog_yes (l : Lg) (w : World) :
    Calls Tryz.prog 20 #[l.val, l.val] w fun en w' => en = .returned (.bool true) ∧ Below w.heap.size w w' := by
  have s0 : (l.D.toList != l.D.toList) = false := by simp
  have s1 : (l.P.toList != l.P.toList) = false := by simp
  have s2 : (l.n != l.n) = false := by simp
  go_enter Tryz.func20, Tryz.ntmps20
  go_wp2
  refine bodyPost_ret (v := .bool true) (by simp [results, Tryz.results20, go_sem, *]) rfl ⟨rfl, ?_⟩
  repeat (first | exact Below.refl _ _ | refine Below.alloc ?_ (by simp; try omega) _ | refine Below.setCell ?_ (by simp; try omega) _)

end Go.Proofs.YtojceibamgodbaaGreatDoor

/- Consoles: an office and a log, in one block of eight cells; validity, size, copy, likeness. (Printed by gen_con.py) -/
namespace Go.Proofs.YtojceibamgodbaaGreatDoor
open Go.RowKit

abbrev conVal (x : Off) (l : Lg) : Value := .agg #[.slice x.TA x.t.length x.tc, .slice x.OA x.o.length x.oc, .int .i64 x.got, .int .i64 x.sold, .int .i64 x.missed, .string l.D, .string l.P, .int .i64 l.n]
noncomputable def conOk (x : Off) (l : Lg) : Bool := goodOff x && l.ok
/-- An office lies at the head of a longer block. -/
theorem offAt_head {w : World} {g : Nat} {t : TypeId} {x : Off} {l : Lg} (h : Lies w g t [.slice x.TA x.t.length x.tc, .slice x.OA x.o.length x.oc, .int .i64 x.got, .int .i64 x.sold, .int .i64 x.missed, .string l.D, .string l.P, .int .i64 l.n]) (hr : OffR w w.heap.size x) : OffAt w w.heap.size g x :=
  ⟨⟨fun p => (p.cell h.lt).trans (h.cell 0), fun p => (p.cell h.lt).trans (h.cell 1), fun p => (p.cell h.lt).trans (h.cell 2), fun p => (p.cell h.lt).trans (h.cell 3), fun p => (p.cell h.lt).trans (h.cell 4)⟩, h.lt, hr⟩


set_option maxHeartbeats 1000000 in
theorem l34Good_any (x : Off) (l : Lg) (w : World) (h : OffR w w.heap.size x) (hs : l.D.size + l.P.size ≤ 2000000) :
    Calls Tryz.prog 11 #[conVal x l] w fun e w' => e = .returned (.bool (conOk x l)) ∧ Below w.heap.size w w' := by
  have b1 := (Below.refl w.heap.size w).alloc (Nat.le_refl _) (.cells #[.slice x.TA x.t.length x.tc, .slice x.OA x.o.length x.oc, .int .i64 x.got, .int .i64 x.sold, .int .i64 x.missed, .string l.D, .string l.P, .int .i64 l.n] 39)
  have L1 := Lies.new w 39 #[.slice x.TA x.t.length x.tc, .slice x.OA x.o.length x.oc, .int .i64 x.got, .int .i64 x.sold, .int .i64 x.missed, .string l.D, .string l.P, .int .i64 l.n]
  have cO := l32Good_any x _ (h.up b1 (Nat.le_refl _))
  have HC : Hid (conOk x l = (goodOff x && l.ok)) := rfl
  have cL := fun W => l33Log_any l W hs
  generalize goodOff x = v1 at cO HC
  generalize l.ok = v2 at cL HC
  cases v1
  · go_enter Tryz.func11, Tryz.ntmps11
    go_wp2_with fail
    refine cO.mono ?_
    rintro e w1 ⟨rfl, hb1⟩
    go_wp2_with fail
    go_ret
    exact ⟨by rw [HC.out]; rfl, bthen b1 hb1⟩
  · go_enter Tryz.func11, Tryz.ntmps11
    go_wp2_with fail
    refine cO.mono ?_
    rintro e w1 ⟨rfl, hb1⟩
    have M1 := L1.below hb1 L1.lt
    have c5 := M1.cell 5
    have c6 := M1.cell 6
    have c7 := M1.cell 7
    simp only [List.getElem?_cons_zero, List.getElem?_cons_succ] at c5 c6 c7
    go_wp2_with fail
    refine (cL _).mono ?_
    rintro e w2 ⟨rfl, hb2⟩
    go_wp2_with fail
    go_ret
    exact ⟨by rw [HC.out]; rfl, bthen b1 (bthen hb1 hb2)⟩

set_option maxHeartbeats 1000000 in
theorem implIsConsole_any (x : Off) (l : Lg) (w : World) (h : OffR w w.heap.size x) (hs : l.D.size + l.P.size ≤ 2000000) (ht : Tab w) :
    Calls Tryz.prog 16 #[conVal x l] w fun e w' => e = .returned (.bool (conOk x l)) ∧ Below w.heap.size w w' := by
  have b1 := (Below.refl w.heap.size w).alloc (Nat.le_refl _) (.cells #[.slice x.TA x.t.length x.tc, .slice x.OA x.o.length x.oc, .int .i64 x.got, .int .i64 x.sold, .int .i64 x.missed, .string l.D, .string l.P, .int .i64 l.n] 39)
  have L1 := Lies.new w 39 #[.slice x.TA x.t.length x.tc, .slice x.OA x.o.length x.oc, .int .i64 x.got, .int .i64 x.sold, .int .i64 x.missed, .string l.D, .string l.P, .int .i64 l.n]
  have ht1 := ht.then b1
  have cO := isOfficeValid_any x _ _ (offAt_head L1 (h.up b1 (Nat.le_refl _)))
  have HC : Hid (conOk x l = (goodOff x && l.ok)) := rfl
  have cL := fun W hW => isLog_any l W hs hW
  generalize goodOff x = v1 at cO HC
  generalize l.ok = v2 at cL HC
  cases v1
  · go_enter Tryz.func16, Tryz.ntmps16
    go_wp2_with fail
    refine cO.mono ?_
    rintro e w1 ⟨rfl, hb1⟩
    go_wp2_with fail
    go_ret
    exact ⟨by rw [HC.out]; rfl, bthen b1 hb1⟩
  · go_enter Tryz.func16, Tryz.ntmps16
    go_wp2_with fail
    refine cO.mono ?_
    rintro e w1 ⟨rfl, hb1⟩
    have M1 := L1.below hb1 L1.lt
    have c5 := M1.cell 5
    have c6 := M1.cell 6
    have c7 := M1.cell 7
    simp only [List.getElem?_cons_zero, List.getElem?_cons_succ] at c5 c6 c7
    go_wp2_with fail
    refine (cL _ (ht1.then hb1)).mono ?_
    rintro e w2 ⟨rfl, hb2⟩
    go_wp2_with fail
    go_ret
    exact ⟨by rw [HC.out]; rfl, bthen b1 (bthen hb1 hb2)⟩


def Off.need (x : Off) : Nat := x.t.length + x.o.length
set_option maxHeartbeats 1000000 in
theorem szConsole_any (x : Off) (l : Lg) (k : Int) (w : World) (hn : x.t.length ≤ 9223372036854775807) (hm : x.o.length ≤ 9223372036854775807) (h1 : l.D.size ≤ 9223372036854775807) (h2 : l.P.size ≤ 9223372036854775807) (hk : 0 ≤ k) (hk' : k ≤ 1048576) :
    Calls Tryz.prog 4 #[conVal x l, .int .i64 k] w fun e w' => e = .returned (.int .i64 (lessR (lessen k (x.t.length + x.o.length)) l.need)) ∧ Below w.heap.size w w' := by
  have b1 := (Below.refl w.heap.size w).alloc (Nat.le_refl _) (.cells #[.slice x.TA x.t.length x.tc, .slice x.OA x.o.length x.oc, .int .i64 x.got, .int .i64 x.sold, .int .i64 x.missed, .string l.D, .string l.P, .int .i64 l.n] 29)
  have L1 := Lies.new w 29 #[.slice x.TA x.t.length x.tc, .slice x.OA x.o.length x.oc, .int .i64 x.got, .int .i64 x.sold, .int .i64 x.missed, .string l.D, .string l.P, .int .i64 l.n]
  have hc := fun W => szOffice_any x k W hn hm hk hk'
  by_cases hle : ((x.t.length + x.o.length : Nat) : Int) ≤ k
  · have he : lessen k (x.t.length + x.o.length) = k - ((x.t.length + x.o.length : Nat) : Int) := by unfold lessen; rw [if_pos hle]
    have hd := fun W => szLog_any l (k - ((x.t.length + x.o.length : Nat) : Int)) W h1 h2 (by omega) (by omega)
    rw [he] at hc
    have HE := Lib.hid he
    clear he
    obtain ⟨k1, hk1⟩ : ∃ k1, k1 = k - ((x.t.length + x.o.length : Nat) : Int) := ⟨_, rfl⟩
    rw [← hk1] at hc hd HE
    have hk2 : decide (k1 < 0) = false := decide_eq_false (by omega)
    clear hk1
    obtain ⟨k3, hk3⟩ : ∃ k3, k3 = lessR k1 l.need := ⟨_, rfl⟩
    rw [← hk3] at hd
    have HR := Lib.hid hk3
    have h3 : -1 ≤ k3 := by rw [hk3]; unfold lessR; split <;> omega
    have h4 : k3 < 0 → k3 = -1 := by rw [hk3]; unfold lessR; split <;> omega
    clear hk3
    by_cases h5 : k3 < 0
    · have h6 : decide (k3 < 0) = true := decide_eq_true h5
      have H7 := Lib.hid (h4 h5)
      clear h4 h3
      go_enter Tryz.func4, Tryz.ntmps4
      go_wp2_with fail
      refine (hc _).mono ?_
      rintro e w1 ⟨rfl, hb1⟩
      have M1 := L1.below hb1 L1.lt
      have c5 := M1.cell 5
      have c6 := M1.cell 6
      have c7 := M1.cell 7
      simp only [List.getElem?_cons_zero, List.getElem?_cons_succ] at c5 c6 c7
      go_wp2_with fail
      refine (hd _).mono ?_
      rintro e w2 ⟨rfl, hb2⟩
      go_wp2_with fail
      go_ret
      exact ⟨by rw [HE.out, ← HR.out, H7.out]; rfl, bthen b1 (bthen hb1 hb2)⟩
    · have h6 : decide (k3 < 0) = false := decide_eq_false h5
      clear h4 h3
      go_enter Tryz.func4, Tryz.ntmps4
      go_wp2_with fail
      refine (hc _).mono ?_
      rintro e w1 ⟨rfl, hb1⟩
      have M1 := L1.below hb1 L1.lt
      have c5 := M1.cell 5
      have c6 := M1.cell 6
      have c7 := M1.cell 7
      simp only [List.getElem?_cons_zero, List.getElem?_cons_succ] at c5 c6 c7
      go_wp2_with fail
      refine (hd _).mono ?_
      rintro e w2 ⟨rfl, hb2⟩
      go_wp2_with fail
      go_ret
      exact ⟨by rw [HE.out, ← HR.out]; rfl, bthen b1 (bthen hb1 hb2)⟩
  · have he : lessen k (x.t.length + x.o.length) = -1 := by unfold lessen; rw [if_neg hle]
    rw [he] at hc
    have HE : Hid (lessR (lessen k (x.t.length + x.o.length)) l.need = -1) := by rw [Hid, he]; unfold lessR; rw [if_neg (by omega)]
    clear he
    go_enter Tryz.func4, Tryz.ntmps4
    go_wp2_with fail
    refine (hc _).mono ?_
    rintro e w1 ⟨rfl, hb1⟩
    go_wp2_with fail
    go_ret
    exact ⟨by rw [HE.out]; rfl, bthen b1 hb1⟩


set_option maxRecDepth 100000 in
set_option maxHeartbeats 4000000 in
theorem toConsole_any (x : Off) (l : Lg) (w : World) (h : OffR w w.heap.size x) (hn : x.t.length ≤ 1048576) (hm : x.o.length ≤ 1048576) :
    Calls Tryz.prog 6 #[conVal x l] w fun e w' => ∃ g1 g2, e = .returned (conVal (x.copy g1 g2) l) ∧ w.heap.size ≤ g1 ∧ g1 < g2 ∧ Lies w' g1 48 (x.t.flatMap Tray.enc) ∧ Lies w' g2 60 (x.o.flatMap Outing.enc) ∧ Below w.heap.size w w' := by
  have L1 := ((Lies.new w 29 #[.slice x.TA x.t.length x.tc, .slice x.OA x.o.length x.oc, .int .i64 x.got, .int .i64 x.sold, .int .i64 x.missed, .string l.D, .string l.P, .int .i64 l.n]).alloc (.cells #[.slice none 0 0, .slice none 0 0, .int .i64 0, .int .i64 0, .int .i64 0, .string ⟨#[]⟩, .string ⟨#[]⟩, .int .i64 0] 39)).alloc (.cells #[.slice none 0 0, .slice none 0 0, .int .i64 0, .int .i64 0, .int .i64 0, .string ⟨#[]⟩, .string ⟨#[]⟩, .int .i64 0] 39)
  have L2 := (Lies.new1 w (.cells #[.slice x.TA x.t.length x.tc, .slice x.OA x.o.length x.oc, .int .i64 x.got, .int .i64 x.sold, .int .i64 x.missed, .string l.D, .string l.P, .int .i64 l.n] 29) 39 #[.slice none 0 0, .slice none 0 0, .int .i64 0, .int .i64 0, .int .i64 0, .string ⟨#[]⟩, .string ⟨#[]⟩, .int .i64 0]).alloc (.cells #[.slice none 0 0, .slice none 0 0, .int .i64 0, .int .i64 0, .int .i64 0, .string ⟨#[]⟩, .string ⟨#[]⟩, .int .i64 0] 39)
  have L3 := Lies.new2 w (.cells #[.slice x.TA x.t.length x.tc, .slice x.OA x.o.length x.oc, .int .i64 x.got, .int .i64 x.sold, .int .i64 x.missed, .string l.D, .string l.P, .int .i64 l.n] 29) (.cells #[.slice none 0 0, .slice none 0 0, .int .i64 0, .int .i64 0, .int .i64 0, .string ⟨#[]⟩, .string ⟨#[]⟩, .int .i64 0] 39) 39 #[.slice none 0 0, .slice none 0 0, .int .i64 0, .int .i64 0, .int .i64 0, .string ⟨#[]⟩, .string ⟨#[]⟩, .int .i64 0]
  have b1 := (Below.refl w.heap.size w).alloc (Nat.le_refl _) (.cells #[.slice x.TA x.t.length x.tc, .slice x.OA x.o.length x.oc, .int .i64 x.got, .int .i64 x.sold, .int .i64 x.missed, .string l.D, .string l.P, .int .i64 l.n] 29)
  have b2 := b1.alloc b1.size (.cells #[.slice none 0 0, .slice none 0 0, .int .i64 0, .int .i64 0, .int .i64 0, .string ⟨#[]⟩, .string ⟨#[]⟩, .int .i64 0] 39)
  have b3 := b2.alloc b2.size (.cells #[.slice none 0 0, .slice none 0 0, .int .i64 0, .int .i64 0, .int .i64 0, .string ⟨#[]⟩, .string ⟨#[]⟩, .int .i64 0] 39)
  clear b1 b2
  go_enter Tryz.func6, Tryz.ntmps6
  go_wp2_with fail
  generalize (((w.alloc (.cells #[.slice x.TA x.t.length x.tc, .slice x.OA x.o.length x.oc, .int .i64 x.got, .int .i64 x.sold, .int .i64 x.missed, .string l.D, .string l.P, .int .i64 l.n] 29)).alloc (.cells #[.slice none 0 0, .slice none 0 0, .int .i64 0, .int .i64 0, .int .i64 0, .string ⟨#[]⟩, .string ⟨#[]⟩, .int .i64 0] 39)).alloc (.cells #[.slice none 0 0, .slice none 0 0, .int .i64 0, .int .i64 0, .int .i64 0, .string ⟨#[]⟩, .string ⟨#[]⟩, .int .i64 0] 39)) = W3 at L1 L2 L3 b3 ⊢
  refine (toOffice_any x W3 (h.up b3 (Nat.le_refl _)) hn hm).mono ?_
  rintro e W4 ⟨g1, g2, rfl, hg1, hg2, hL1, hL2, hb4⟩
  have hs1 := L1.lt
  have hs2 := L2.lt
  have hs3 := L3.lt
  have b4 := b3.trans (hb4.mono b3.size)
  have K1 := L1.below hb4 L1.lt
  have K2 := L2.below hb4 L2.lt
  have K3 := L3.below hb4 L3.lt
  clear L1 L2 L3 h

  have c5 := K1.cell 5
  have c6 := K1.cell 6
  have c7 := K1.cell 7
  have d0 := K3.cell 0
  have f0 := K3.frozen 0
  have d1 := K3.cell 1
  have f1 := K3.frozen 1
  have d2 := K3.cell 2
  have f2 := K3.frozen 2
  have d3 := K3.cell 3
  have f3 := K3.frozen 3
  have d4 := K3.cell 4
  have f4 := K3.frozen 4
  simp only [List.getElem?_cons_zero, List.getElem?_cons_succ] at c5 c6 c7 d0 d1 d2 d3 d4
  have M1 := (((((K1).other (p := ⟨w.heap.size + 1 + 1, 0, none⟩) (by simp only; omega) (.slice (some ⟨g1, 0, none⟩) x.t.length x.t.length)).other (p := ⟨w.heap.size + 1 + 1, 1, none⟩) (by simp only; omega) (.slice (some ⟨g2, 0, none⟩) x.o.length x.o.length)).other (p := ⟨w.heap.size + 1 + 1, 2, none⟩) (by simp only; omega) (.int .i64 x.got)).other (p := ⟨w.heap.size + 1 + 1, 3, none⟩) (by simp only; omega) (.int .i64 x.sold)).other (p := ⟨w.heap.size + 1 + 1, 4, none⟩) (by simp only; omega) (.int .i64 x.missed)
  have M2 := (((((K2).other (p := ⟨w.heap.size + 1 + 1, 0, none⟩) (by simp only; omega) (.slice (some ⟨g1, 0, none⟩) x.t.length x.t.length)).other (p := ⟨w.heap.size + 1 + 1, 1, none⟩) (by simp only; omega) (.slice (some ⟨g2, 0, none⟩) x.o.length x.o.length)).other (p := ⟨w.heap.size + 1 + 1, 2, none⟩) (by simp only; omega) (.int .i64 x.got)).other (p := ⟨w.heap.size + 1 + 1, 3, none⟩) (by simp only; omega) (.int .i64 x.sold)).other (p := ⟨w.heap.size + 1 + 1, 4, none⟩) (by simp only; omega) (.int .i64 x.missed)
  have M3 := (((((K3).set 0 (.slice (some ⟨g1, 0, none⟩) x.t.length x.t.length)).set 1 (.slice (some ⟨g2, 0, none⟩) x.o.length x.o.length)).set 2 (.int .i64 x.got)).set 3 (.int .i64 x.sold)).set 4 (.int .i64 x.missed)
  have M4 := (((((hL1).other (p := ⟨w.heap.size + 1 + 1, 0, none⟩) (by simp only; omega) (.slice (some ⟨g1, 0, none⟩) x.t.length x.t.length)).other (p := ⟨w.heap.size + 1 + 1, 1, none⟩) (by simp only; omega) (.slice (some ⟨g2, 0, none⟩) x.o.length x.o.length)).other (p := ⟨w.heap.size + 1 + 1, 2, none⟩) (by simp only; omega) (.int .i64 x.got)).other (p := ⟨w.heap.size + 1 + 1, 3, none⟩) (by simp only; omega) (.int .i64 x.sold)).other (p := ⟨w.heap.size + 1 + 1, 4, none⟩) (by simp only; omega) (.int .i64 x.missed)
  have M5 := (((((hL2).other (p := ⟨w.heap.size + 1 + 1, 0, none⟩) (by simp only; omega) (.slice (some ⟨g1, 0, none⟩) x.t.length x.t.length)).other (p := ⟨w.heap.size + 1 + 1, 1, none⟩) (by simp only; omega) (.slice (some ⟨g2, 0, none⟩) x.o.length x.o.length)).other (p := ⟨w.heap.size + 1 + 1, 2, none⟩) (by simp only; omega) (.int .i64 x.got)).other (p := ⟨w.heap.size + 1 + 1, 3, none⟩) (by simp only; omega) (.int .i64 x.sold)).other (p := ⟨w.heap.size + 1 + 1, 4, none⟩) (by simp only; omega) (.int .i64 x.missed)
  have b5 : Below w.heap.size w ((((((W4).setCell ⟨w.heap.size + 1 + 1, 0, none⟩ (.slice (some ⟨g1, 0, none⟩) x.t.length x.t.length)).setCell ⟨w.heap.size + 1 + 1, 1, none⟩ (.slice (some ⟨g2, 0, none⟩) x.o.length x.o.length)).setCell ⟨w.heap.size + 1 + 1, 2, none⟩ (.int .i64 x.got)).setCell ⟨w.heap.size + 1 + 1, 3, none⟩ (.int .i64 x.sold)).setCell ⟨w.heap.size + 1 + 1, 4, none⟩ (.int .i64 x.missed)) := b4.grown (grown_set (grown_set (grown_set (grown_set (grown_set (World.grownBy.refl W4 (some (w.heap.size + 1 + 1)))))))) b4.size (by rintro _ ⟨⟩; omega)
  simp only [List.set_cons_zero, List.set_cons_succ] at M3
  clear K1 K2 K3 hL1 hL2
  go_wp2_with fail
  clear c5 c6 c7 d0 f0 d1 f1 d2 f2 d3 f3 d4 f4
  generalize ((((((W4).setCell ⟨w.heap.size + 1 + 1, 0, none⟩ (.slice (some ⟨g1, 0, none⟩) x.t.length x.t.length)).setCell ⟨w.heap.size + 1 + 1, 1, none⟩ (.slice (some ⟨g2, 0, none⟩) x.o.length x.o.length)).setCell ⟨w.heap.size + 1 + 1, 2, none⟩ (.int .i64 x.got)).setCell ⟨w.heap.size + 1 + 1, 3, none⟩ (.int .i64 x.sold)).setCell ⟨w.heap.size + 1 + 1, 4, none⟩ (.int .i64 x.missed)) = W5 at M1 M2 M3 M4 M5 b5 ⊢
  refine (toLog_any l W5).mono ?_
  rintro e W6 ⟨rfl, hb6⟩
  have b6 := b5.trans (hb6.mono b5.size)
  have t1 := M1.lt
  have t2 := M2.lt
  have t3 := M3.lt
  have t4 := M4.lt
  have t5 := M5.lt
  have N2 := M2.below hb6 M2.lt
  have N3 := M3.below hb6 M3.lt
  have N4 := M4.below hb6 M4.lt
  have N5 := M5.below hb6 M5.lt
  clear M1 M2 M3 M4 M5
  have d0 := N3.cell 0
  have e0 := N2.cell 0
  have k0 := N2.frozen 0
  have d1 := N3.cell 1
  have e1 := N2.cell 1
  have k1 := N2.frozen 1
  have d2 := N3.cell 2
  have e2 := N2.cell 2
  have k2 := N2.frozen 2
  have d3 := N3.cell 3
  have e3 := N2.cell 3
  have k3 := N2.frozen 3
  have d4 := N3.cell 4
  have e4 := N2.cell 4
  have k4 := N2.frozen 4
  have d5 := N3.cell 5
  have e5 := N2.cell 5
  have k5 := N2.frozen 5
  have f5 := N3.frozen 5
  have d6 := N3.cell 6
  have e6 := N2.cell 6
  have k6 := N2.frozen 6
  have f6 := N3.frozen 6
  have d7 := N3.cell 7
  have e7 := N2.cell 7
  have k7 := N2.frozen 7
  have f7 := N3.frozen 7
  simp only [List.getElem?_cons_zero, List.getElem?_cons_succ] at d0 d1 d2 d3 d4 d5 d6 d7 e0 e1 e2 e3 e4 e5 e6 e7
  go_wp2
  refine bodyPost_ret (v := conVal (x.copy g1 g2) l) (by simp [results, Tryz.results6, go_sem, *]) rfl ⟨g1, g2, rfl, Nat.le_trans b3.size hg1, hg2, ?_, ?_, ?_⟩
  · exact ((((((((((N4.other (by simp only; omega) _).other (by simp only; omega) _).other (by simp only; omega) _).other (by simp only; omega) _).other (by simp only; omega) _).other (by simp only; omega) _).other (by simp only; omega) _).other (by simp only; omega) _).other (by simp only; omega) _).other (by simp only; omega) _).other (by simp only; omega) _
  · exact ((((((((((N5.other (by simp only; omega) _).other (by simp only; omega) _).other (by simp only; omega) _).other (by simp only; omega) _).other (by simp only; omega) _).other (by simp only; omega) _).other (by simp only; omega) _).other (by simp only; omega) _).other (by simp only; omega) _).other (by simp only; omega) _).other (by simp only; omega) _
  · exact (b6.grown (grown_set (grown_set (grown_set (World.grownBy.refl W6 (some (w.heap.size + 1 + 1)))))) b6.size (by rintro _ ⟨⟩; omega)).grown (grown_set (grown_set (grown_set (grown_set (grown_set (grown_set (grown_set (grown_set (World.grownBy.refl _ (some (w.heap.size + 1))))))))))) (by simpa using b6.size) (by rintro _ ⟨⟩; omega)


set_option maxHeartbeats 1000000 in
theorem eqConsole_yes (x y : Off) (l : Lg) (w : World) (hx : OffR w w.heap.size x) (hy : OffR w w.heap.size y) (ht : sameTrays x.t y.t = true) (ho : sameOutings x.o y.o = true) (hg : x.got = y.got) (hs : x.sold = y.sold) (hm : x.missed = y.missed) :
    Calls Tryz.prog 8 #[conVal x l, conVal y l] w fun e w' => e = .returned (.bool true) ∧ Below w.heap.size w w' := by
  have b1 := (Below.refl w.heap.size w).alloc (Nat.le_refl _) (.cells #[.slice x.TA x.t.length x.tc, .slice x.OA x.o.length x.oc, .int .i64 x.got, .int .i64 x.sold, .int .i64 x.missed, .string l.D, .string l.P, .int .i64 l.n] 39)
  have b2 := b1.alloc b1.size (.cells #[.slice y.TA y.t.length y.tc, .slice y.OA y.o.length y.oc, .int .i64 y.got, .int .i64 y.sold, .int .i64 y.missed, .string l.D, .string l.P, .int .i64 l.n] 39)
  have L1 := (Lies.new w 39 #[.slice x.TA x.t.length x.tc, .slice x.OA x.o.length x.oc, .int .i64 x.got, .int .i64 x.sold, .int .i64 x.missed, .string l.D, .string l.P, .int .i64 l.n]).alloc (.cells #[.slice y.TA y.t.length y.tc, .slice y.OA y.o.length y.oc, .int .i64 y.got, .int .i64 y.sold, .int .i64 y.missed, .string l.D, .string l.P, .int .i64 l.n] 39)
  have L2 := Lies.new1 w (.cells #[.slice x.TA x.t.length x.tc, .slice x.OA x.o.length x.oc, .int .i64 x.got, .int .i64 x.sold, .int .i64 x.missed, .string l.D, .string l.P, .int .i64 l.n] 39) 39 #[.slice y.TA y.t.length y.tc, .slice y.OA y.o.length y.oc, .int .i64 y.got, .int .i64 y.sold, .int .i64 y.missed, .string l.D, .string l.P, .int .i64 l.n]
  clear b1
  have cO := fun W hX hY => eqOffice_yes x y W hX hY ht ho hg hs hm
  clear ht ho hg hs hm
  go_enter Tryz.func8, Tryz.ntmps8
  go_wp2_with fail
  generalize ((w.alloc (.cells #[.slice x.TA x.t.length x.tc, .slice x.OA x.o.length x.oc, .int .i64 x.got, .int .i64 x.sold, .int .i64 x.missed, .string l.D, .string l.P, .int .i64 l.n] 39)).alloc (.cells #[.slice y.TA y.t.length y.tc, .slice y.OA y.o.length y.oc, .int .i64 y.got, .int .i64 y.sold, .int .i64 y.missed, .string l.D, .string l.P, .int .i64 l.n] 39)) = W at b2 L1 L2 ⊢
  refine (cO W (hx.up b2 (Nat.le_refl _)) (hy.up b2 (Nat.le_refl _))).mono ?_
  rintro e w1 ⟨rfl, hb1⟩
  have M1 := L1.below hb1 L1.lt
  have M2 := L2.below hb1 L2.lt
  have c5 := M1.cell 5
  have c6 := M1.cell 6
  have c7 := M1.cell 7
  have d5 := M2.cell 5
  have d6 := M2.cell 6
  have d7 := M2.cell 7
  simp only [List.getElem?_cons_zero, List.getElem?_cons_succ] at c5 c6 c7 d5 d6 d7
  go_wp2_with fail
  refine (eqLog_yes l _).mono ?_
  rintro e w2 ⟨rfl, hb2⟩
  go_wp2_with fail
  go_ret
  exact ⟨rfl, bthen b2 (bthen hb1 hb2)⟩
end Go.Proofs.YtojceibamgodbaaGreatDoor

/- The text of a console (plain). -/
namespace Go.Proofs.YtojceibamgodbaaGreatDoor
open Go.RowKit

theorem asc_from : ∀ (l : List Tray) (n : Nat) (p : Int), n ≠ 0 → traysFrom n p l = true → ∀ t ∈ l, p < t.k
  | [], _, _, _, _, t, h => by simp at h
  | r :: l, n, p, hn, hg, t, h => by
    simp only [traysFrom, Bool.and_eq_true, Bool.or_eq_true, decide_eq_true_eq] at hg
    obtain ⟨⟨_, h1⟩, h2⟩ := hg
    have h3 : p < r.k := by rcases h1 with h1 | h1; exact absurd h1 hn; exact h1
    rcases List.mem_cons.1 h with rfl | h
    · exact h3
    · have := asc_from l (n + 1) r.k (by omega) h2 t h; omega
theorem ix_from : ∀ (ts : List Tray) (n : Nat) (p : Int) (m : Nat), traysFrom n p ts = true → ∀ k (h : k < ts.length), idxFrom (fun t : Tray => decide (t.k = ts[k].k)) m ts = ((m + k : Nat) : Int)
  | [], _, _, _, _, k, h => by simp at h
  | r :: l, n, p, m, hg, k, h => by
    simp only [traysFrom, Bool.and_eq_true] at hg
    cases k with
    | zero => simp [idxFrom]
    | succ k =>
      have hk : k < l.length := by simpa using h
      have h1 := asc_from l (n + 1) r.k (by omega) hg.2 l[k] (List.getElem_mem hk)
      have h2 := ix_from l (n + 1) r.k (m + 1) hg.2 k hk
      simp only [List.getElem_cons_succ, idxFrom]
      rw [if_neg (by simp; omega), h2]
      congr 1; omega
theorem trayIx_self {x : Off} (G : Good x) {k : Nat} (h : k < x.t.length) : trayIx x.t x.t[k].k = k := by
  have := ix_from x.t 0 0 0 G.ts k h
  rw [Nat.zero_add] at this
  exact this
/-- One tray's line. -/
def trayB (x : Off) (t : Tray) : ByteArray := trT (numT t.c) (numT (outSum (isKind t.k) x.o))
def rowB (x : Off) (t : Tray) : List UInt8 := Lib.itoa t.k ++ [58, 32] ++ bl (trayB x t) ++ [10]
def rowsB (x : Off) (ts : List Tray) : List UInt8 := ts.flatMap (rowB x)
def endB (x : Off) (l : Lg) : List UInt8 := [103, 111, 116, 32] ++ Lib.itoa x.got ++ [59, 32, 115, 111, 108, 100, 32] ++ Lib.itoa x.sold ++ [59, 32, 109, 105, 115, 115, 101, 100, 32] ++ Lib.itoa x.missed ++ [59, 32, 114, 101, 99, 111, 114, 100, 115, 32] ++ Lib.itoa l.n ++ [10]
noncomputable def conV (x : Off) (l : Lg) : ByteArray := if conOk x l = true then ⟨(rowsB x x.t ++ endB x l).toArray⟩ else ⟨#[]⟩
theorem rowsB_next {x : Off} {k : Nat} (h : k < x.t.length) : rowsB x (x.t.take (k + 1)) = rowsB x (x.t.take k) ++ rowB x x.t[k] := by
  unfold rowsB; rw [List.take_succ_eq_append_getElem h, List.flatMap_append]; simp
theorem conOk_good {x : Off} {l : Lg} (h : conOk x l = true) : Good x := by
  unfold conOk at h; rw [Bool.and_eq_true] at h; exact good_iff.1 h.1
theorem conOk_num {x : Off} {l : Lg} (h : conOk x l = true) : 0 ≤ l.n ∧ l.n ≤ 60 := by
  unfold conOk Lg.ok at h; rw [Bool.and_eq_true] at h
  have h1 := (logOk_iff.1 h.2).2.2
  have h2 := openF_length 60 0 (bl l.D ++ bl l.P)
  omega
theorem tray_size {x : Off} (G : Good x) {k : Nat} (h : k < x.t.length) : (trayB x x.t[k]).size ≤ 220 := by
  have hob := outFrom_bd (isKind x.t[k].k) x.t x.o 0 G.oall
  change 0 ≤ outSum (isKind x.t[k].k) x.o ∧ outSum (isKind x.t[k].k) x.o ≤ _ at hob
  have ol := G.ol
  have htb := (Tray.bounds (G.tall k h)).2
  have h1 : (numT x.t[k].c).size ≤ 100 := itoa_len (by omega) (by omega)
  have h2 : (numT (outSum (isKind x.t[k].k) x.o)).size ≤ 100 := itoa_len (by omega) (by omega)
  unfold trayB trT
  simp only [ByteArray.size_append]
  have e1 : (⟨#[32, 105, 110, 32]⟩ : ByteArray).size = 4 := rfl
  have e2 : (⟨#[32, 111, 117, 116]⟩ : ByteArray).size = 4 := rfl
  omega
end Go.Proofs.YtojceibamgodbaaGreatDoor

/- FormatConsole in the program. (Printed by gen_fmt.py) -/
namespace Go.Proofs.YtojceibamgodbaaGreatDoor
open Go.RowKit

set_option maxRecDepth 100000 in
set_option maxHeartbeats 8000000 in
set_option linter.unusedVariables false in
theorem implFormat_any (x : Off) (l : Lg) (w : World) (h : OffR w w.heap.size x) (hs : l.D.size + l.P.size ≤ 2000000) (ht : Tab w) :
    Calls Tryz.prog 7 #[conVal x l] w fun e w' => e = .returned (.tuple #[.string (conV x l), .bool (conOk x l)]) ∧ Below w.heap.size w w' := by
  have b0 := (Below.refl w.heap.size w).alloc (Nat.le_refl _) (.cells #[.slice x.TA x.t.length x.tc, .slice x.OA x.o.length x.oc, .int .i64 x.got, .int .i64 x.sold, .int .i64 x.missed, .string l.D, .string l.P, .int .i64 l.n] 39)
  have L0 := Lies.new w 39 #[.slice x.TA x.t.length x.tc, .slice x.OA x.o.length x.oc, .int .i64 x.got, .int .i64 x.sold, .int .i64 x.missed, .string l.D, .string l.P, .int .i64 l.n]
  have hW := h.up b0 (Nat.le_refl _)
  have ht0 := ht.then b0
  have HI := Lib.hid (fun W h t => implIsConsole_any x l W h hs t)
  obtain ⟨ok, hok⟩ : ∃ b, conOk x l = b := ⟨_, rfl⟩
  rw [hok] at HI
  have HOK := Lib.hid hok
  clear hok
  go_enter Tryz.func7, Tryz.ntmps7
  go_wp2_with fail
  generalize w.alloc (.cells #[.slice x.TA x.t.length x.tc, .slice x.OA x.o.length x.oc, .int .i64 x.got, .int .i64 x.sold, .int .i64 x.missed, .string l.D, .string l.P, .int .i64 l.n] 39) = W at b0 L0 hW ht0 ⊢
  generalize hgb : w.heap.size = g at L0 ⊢
  refine (HI.out W hW ht0).mono ?_
  rintro e w1 ⟨rfl, hb1⟩
  have L1 := L0.below hb1 L0.lt
  have hW1 := hW.then hb1
  have ht1 := ht0.then hb1
  have c1 : Below w.heap.size w w1 := bthen b0 hb1
  rw [hgb] at c1
  clear hb1 L0 hW ht0 b0
  cases ok with
  | false =>
    have HV : Hid (conV x l = ⟨#[]⟩) := by unfold conV; rw [HOK.out]; rfl
    clear L1 hW1 ht1
    go_wp2_with fail
    go_ret2
    rw [HV.out, HOK.out]
    exact ⟨rfl, by rw [hgb]; exact c1⟩
  | true =>
    have G := conOk_good HOK.out
    have hn := conOk_num HOK.out
    have HV : Hid (conV x l = ⟨(rowsB x x.t ++ endB x l).toArray⟩) := by unfold conV; rw [HOK.out]; rfl
    have hat : OffAt w1 w1.heap.size g x := offAt_head L1 hW1
    have k0 := L1.cell 0
    have k1 := L1.cell 1
    have k2 := L1.cell 2
    have k3 := L1.cell 3
    have k4 := L1.cell 4
    have k5 := L1.cell 5
    have k6 := L1.cell 6
    have k7 := L1.cell 7
    simp only [List.getElem?_cons_zero, List.getElem?_cons_succ] at k0 k1 k2 k3 k4 k5 k6 k7
    have tl := G.tl
    have r2 : ∀ p : Since w1.heap.size w1, p.val.cell? ⟨g, 2, none⟩ = some (.int .i64 x.got) := fun p => (p.cell L1.lt).trans k2
    have r3 : ∀ p : Since w1.heap.size w1, p.val.cell? ⟨g, 3, none⟩ = some (.int .i64 x.sold) := fun p => (p.cell L1.lt).trans k3
    have r4 : ∀ p : Since w1.heap.size w1, p.val.cell? ⟨g, 4, none⟩ = some (.int .i64 x.missed) := fun p => (p.cell L1.lt).trans k4
    have r7 : ∀ p : Since w1.heap.size w1, p.val.cell? ⟨g, 7, none⟩ = some (.int .i64 l.n) := fun p => (p.cell L1.lt).trans k7
    have GG := Lib.hid G
    have HN4 := Lib.hid (And.intro G.g (And.intro G.s (And.intro G.m hn)))
    clear G hn
    go_wp2_with fail
    clear k0 k1 k2 k3 k4 k5 k6 k7
    go_loopw [5, 7, 17] (fun o _ i wr => ∃ (k : Nat) (s : ByteArray), k ≤ x.t.length ∧ i = .int .i64 k ∧ o = .string s ∧ s.size ≤ 1000 * k ∧ (∃ q : Since w1.heap.size w1, wr = q.val) ∧ Hid (bl s = rowsB x (x.t.take k))) (fun _ _ i _ => x.t.length - (intOf i).toNat)
    case atStart => exact ⟨0, ⟨#[]⟩, Nat.zero_le _, rfl, rfl, Nat.zero_le _, ⟨Since.start _ _, rfl⟩, rfl⟩
    case round =>
      obtain ⟨k, s, hk, rfl, rfl, hz, ⟨q, rfl⟩, HR⟩ := hrel
      by_cases hlt : k < x.t.length
      · obtain ⟨bt, ot, hTA, hbt, htc⟩ := hW1.ts.el (by omega)
        obtain ⟨t0, t1⟩ := htc k hlt
        have hlt2 : (k : Int) < (x.t.length : Int) := by omega
        have htb := Tray.bounds (GG.out.tall k hlt)
        have hts := tray_size GG.out hlt
        have HTT : Hid (∀ W : World, OffAt W W.heap.size g x → Tab W → Calls Tryz.prog 18 #[.pointer (some ⟨g, 0, none⟩), .int .i64 x.t[k].k] W fun e w' => e = .returned (.string (trayB x x.t[k])) ∧ Below W.heap.size W w') :=
          fun W hA hT => trayText_any x g k x.t[k].k W hA GG.out (trayIx_self GG.out hlt) hlt hT
        have HN := Lib.hid (rowsB_next (x := x) hlt)
        obtain ⟨tr, htr⟩ : ∃ tr, x.t[k] = tr := ⟨_, rfl⟩
        rw [htr] at t0 t1 htb hts HTT HN
        obtain ⟨tb, htb2⟩ : ∃ tb, trayB x tr = tb := ⟨_, rfl⟩
        rw [htb2] at hts HTT
        have HRB : Hid (rowB x tr = Lib.itoa tr.k ++ [58, 32] ++ bl tb ++ [10]) := by rw [Hid, ← htb2]; rfl
        obtain ⟨kv, hkv⟩ : ∃ s : ByteArray, s = ⟨(Lib.itoa tr.k).toArray⟩ := ⟨_, rfl⟩
        have hks : kv.size ≤ 100 := by rw [hkv]; exact itoa_len (by omega) (by omega)
        have NUM : Hid (∀ W : World, Tab W → Calls Tryz.prog 17 #[.int .i64 tr.k] W fun e w' => e = .returned (.string kv) ∧ Below W.heap.size W w') := by
          intro W hW; rw [hkv]; exact itoa_any _ _ (by omega) (by omega) hW
        have HKV : Hid (bl kv = Lib.itoa tr.k) := by rw [hkv, Hid, bl_mk]
        clear htr htb2 hkv htb htc
        simp only [hTA]
        have ba := (Below.refl q.val.heap.size q.val).alloc (Nat.le_refl _) (.cells #[.int .i64 tr.k, .int .i64 tr.c] 48)
        have LT := Lies.new q.val 48 #[.int .i64 tr.k, .int .i64 tr.c]
        have hat7 := (hat.at q).then ba ba.size
        have ht7 := (ht1.at q).then ba
        go_upto_region 7 with fail
        generalize q.val.alloc (.cells #[.int .i64 tr.k, .int .i64 tr.c] 48) = W7 at ba LT hat7 ht7 ⊢
        generalize q.val.heap.size = g7 at LT ⊢
        have j0 : ∀ p : Since W7.heap.size W7, p.val.cell? ⟨g7, 0, none⟩ = some (.int .i64 tr.k) := fun p => (p.cell LT.lt).trans (LT.cell 0)
        refine wp_region_since0 (by kernel_rfl) (by kernel_rfl) ?_
        repeat (any_goals (first | go_big_quiet_step ((first | (go_at_call 17; refine calls_since (Nat.le_refl _) (NUM.out _ (ht7.at _))) | (go_at_call 18; refine calls_since (Nat.le_refl _) (HTT.out _ (hat7.at _) (ht7.at _))))) | (refine wpQuiet_step (fun K hK => ?_); go_simp; split <;> (refine hK _ ?_; clear hK K))))
        all_goals (refine wpQuiet_nil ?_; rintro _ ⟨q1, rfl⟩)
        all_goals go_wp2
        go_roundw
        case rel =>
          refine ⟨k + 1, s ++ (kv ++ ⟨#[58, 32]⟩ ++ tb ++ ⟨#[10]⟩), by omega, by go_num, rfl, ?_, ⟨q.go (Nat.le_refl _) (bthen ba q1.below), rfl⟩, ?_⟩
          · simp only [ByteArray.size_append]
            have e1 : (⟨#[58, 32]⟩ : ByteArray).size = 2 := rfl
            have e2 : (⟨#[10]⟩ : ByteArray).size = 1 := rfl
            omega
          · rw [Hid, HN.out, HRB.out, ← HR.out, ← HKV.out]
            simp only [bl_app]
            rfl
        case measure => simp [intOf]; omega
      · have hlt2 : ¬ (k : Int) < (x.t.length : Int) := by omega
        obtain ⟨⟨g1, g2⟩, ⟨s1, s2⟩, ⟨m1, m2⟩, n1, n2⟩ := HN4.out
        have HRA : Hid (bl s = rowsB x x.t) := by
          have h1 := HR.out; rw [List.take_of_length_le (by omega)] at h1; exact h1
        have hz8 : s.size ≤ 8000 := by omega
        obtain ⟨vg, hvg⟩ : ∃ s : ByteArray, s = ⟨(Lib.itoa x.got).toArray⟩ := ⟨_, rfl⟩
        have zvg : vg.size ≤ 100 := by rw [hvg]; exact itoa_len (by omega) (by omega)
        have NG : Hid (∀ W : World, Tab W → Calls Tryz.prog 17 #[.int .i64 x.got] W fun e w' => e = .returned (.string vg) ∧ Below W.heap.size W w') := by
          intro W hW; rw [hvg]; exact itoa_any _ _ (by omega) (by omega) hW
        have BG : Hid (bl vg = Lib.itoa x.got) := by rw [hvg, Hid, bl_mk]
        clear hvg
        obtain ⟨vs, hvs⟩ : ∃ s : ByteArray, s = ⟨(Lib.itoa x.sold).toArray⟩ := ⟨_, rfl⟩
        have zvs : vs.size ≤ 100 := by rw [hvs]; exact itoa_len (by omega) (by omega)
        have NS : Hid (∀ W : World, Tab W → Calls Tryz.prog 17 #[.int .i64 x.sold] W fun e w' => e = .returned (.string vs) ∧ Below W.heap.size W w') := by
          intro W hW; rw [hvs]; exact itoa_any _ _ (by omega) (by omega) hW
        have BS : Hid (bl vs = Lib.itoa x.sold) := by rw [hvs, Hid, bl_mk]
        clear hvs
        obtain ⟨vm, hvm⟩ : ∃ s : ByteArray, s = ⟨(Lib.itoa x.missed).toArray⟩ := ⟨_, rfl⟩
        have zvm : vm.size ≤ 100 := by rw [hvm]; exact itoa_len (by omega) (by omega)
        have NM : Hid (∀ W : World, Tab W → Calls Tryz.prog 17 #[.int .i64 x.missed] W fun e w' => e = .returned (.string vm) ∧ Below W.heap.size W w') := by
          intro W hW; rw [hvm]; exact itoa_any _ _ (by omega) (by omega) hW
        have BM : Hid (bl vm = Lib.itoa x.missed) := by rw [hvm, Hid, bl_mk]
        clear hvm
        obtain ⟨vn, hvn⟩ : ∃ s : ByteArray, s = ⟨(Lib.itoa l.n).toArray⟩ := ⟨_, rfl⟩
        have zvn : vn.size ≤ 100 := by rw [hvn]; exact itoa_len (by omega) (by omega)
        have NN : Hid (∀ W : World, Tab W → Calls Tryz.prog 17 #[.int .i64 l.n] W fun e w' => e = .returned (.string vn) ∧ Below W.heap.size W w') := by
          intro W hW; rw [hvn]; exact itoa_any _ _ (by omega) (by omega) hW
        have BN : Hid (bl vn = Lib.itoa l.n) := by rw [hvn, Hid, bl_mk]
        clear hvn
        clear HR hz hlt hat hW1 GG
        go_wp2_with fail
        refine wp_region_since _ (by kernel_rfl) (by kernel_rfl) ?_
        repeat (any_goals (first | go_big_quiet_step ((first | (go_at_call 17; with_reducible refine calls_since (Nat.le_refl _) (NG.out _ (ht1.at _))) | (go_at_call 17; with_reducible refine calls_since (Nat.le_refl _) (NS.out _ (ht1.at _))) | (go_at_call 17; with_reducible refine calls_since (Nat.le_refl _) (NM.out _ (ht1.at _))) | (go_at_call 17; with_reducible refine calls_since (Nat.le_refl _) (NN.out _ (ht1.at _))))) | (refine wpQuiet_step (fun K hK => ?_); go_simp; split <;> (refine hK _ ?_; clear hK K))))
        all_goals (refine wpQuiet_nil ?_; rintro _ ⟨q1, rfl⟩)
        all_goals go_wp2
        go_ret2
        have HE : Hid (s ++ ⟨#[103, 111, 116, 32]⟩ ++ vg ++ ⟨#[59, 32, 115, 111, 108, 100, 32]⟩ ++ vs ++ ⟨#[59, 32, 109, 105, 115, 115, 101, 100, 32]⟩ ++ vm ++ ⟨#[59, 32, 114, 101, 99, 111, 114, 100, 115, 32]⟩ ++ vn ++ ⟨#[10]⟩ = conV x l) := by
          rw [Hid, HV.out]
          apply bl_inj
          rw [bl_mk (rowsB x x.t ++ endB x l)]
          unfold endB
          rw [← HRA.out, ← BG.out, ← BS.out, ← BM.out, ← BN.out]
          simp only [bl_app, List.append_assoc]
          rfl
        rw [← HE.out, HOK.out]
        exact ⟨rfl, by rw [hgb]; exact c1.trans (q1.below.mono (by have := c1.size; omega))⟩
end Go.Proofs.YtojceibamgodbaaGreatDoor

/- A region whose order is drawn: one fact on each operation, which may also speak of one operation that comes ahead; each operation has its own way to turn the world (T k). -/
namespace Go.Proofs.YtojceibamgodbaaGreatDoor
open Go.RowKit

/-- A fact on an operation's value, and on the value of one that comes ahead of it. -/
structure FactN where
  D : Nat
  R : Value → Value → World → Prop
  Br : List Nat := []
def FactN.at (f : FactN) (vs : Nat → Value) (j : Nat) (w : World) : Prop := f.R (vs f.D) (vs j) w
/-- No other operation that may come behind it turns the fact. -/
def FactN.firm (ops : Array Oper) (T : Nat → World → World → Prop) (j : Nat) (f : FactN) : Prop := ∀ i, i ≠ j → i ∉ f.Br → ahead .any ops ops.size j i = false → ∀ u v w w', f.R u v w → T i w w' → f.R u v w'
/-- The fact still stands when operation k comes. -/
def FactN.live (ops : Array Oper) (k : Nat) (f : FactN) : Bool := f.Br.all fun i => i == k || ahead .any ops ops.size i k
def FactN.fine (ops : Array Oper) (j : Nat) (f : FactN) : Prop := (∀ u u' v w, f.R u v w → f.R u' v w) ∨ ahead .any ops ops.size j f.D = true
theorem FactN.eq {V : Value} {vs : Nat → Value} {j : Nat} {w : World} (h : FactN.at ⟨0, fun _ v _ => v = V, []⟩ vs j w) : vs j = V := h
/-- What has come up when operation k comes. -/
structure Gone (ops : Array Oper) (L : Nat → Bool) (k : Nat) : Prop where
  self : L k = false
  done : ∀ j, ahead .any ops ops.size k j = true → L j = true
  open_ : ∀ j, ahead .any ops ops.size j k = true → L j = false
def Listed.but (L : Nat → Bool) (k : Nat) : Nat → Bool := fun j => if j = k then true else L j
section
variable {P : Program} {ops : Array Oper} {Q : Exit → Act → World → Prop}

/-- The walk: a fact R on each operation's value; the facts of those that come ahead are at hand. -/
def wpFactsN (P : Program) (ops : Array Oper) (Q : Exit → Act → World → Prop) (C : (Nat → Bool) → World → Prop) (T : Nat → World → World → Prop) (fr : (Nat → Value) → Act) : Nat → List Oper → List FactN → Prop
  | _, [], Rs => ∀ vs L w, (∀ j, j < ops.size → L j = true) → C L w → (∀ (j : Nat) (R : FactN), R.Br = [] → Rs[j]? = some R → R.at vs j w) → Q .normal (fr vs) w
  | k, o :: l, Rs => ∃ R : FactN, R.fine ops k ∧ R.firm ops T k ∧
    (∀ vs L w, Gone ops L k → C L w → (∀ (j : Nat) (R' : FactN), ahead .any ops ops.size k j = true → R'.live ops k = true → Rs[j]? = some R' → R'.at vs j w) → ∀ K : Act → World → Prop, (∀ a' v w', a' = (fr vs).put o.dst v → R.R (vs R.D) v w' → C (Listed.but L k) w' → T k w w' → K a' w') →
      if Region.wanted o (yielded ops (fr vs).tmps) = true then o.wp P (fr vs) w K Q else K ((fr vs).put o.dst undef) w) ∧
    wpFactsN P ops Q C T fr (k + 1) l (Rs ++ [R])

/-- What the walk gives: the facts, one for each operation. -/
theorem wpFactsN_all {C : (Nat → Bool) → World → Prop} {T : Nat → World → World → Prop} {fr : (Nat → Value) → Act} : ∀ (l : List Oper) (k : Nat) (Rs : List FactN), (∀ i, l[i]? = ops[k + i]?) → Rs.length = k →
    (∀ (j : Nat) (R : FactN), Rs[j]? = some R → R.fine ops j ∧ R.firm ops T j) →
    (∀ (j : Nat) (o : Oper) (R : FactN), j < k → ops[j]? = some o → Rs[j]? = some R → ∀ vs L w, Gone ops L j → C L w → (∀ (j' : Nat) (R' : FactN), ahead .any ops ops.size j j' = true → R'.live ops j = true → j' < j → Rs[j']? = some R' → R'.at vs j' w) → ∀ K : Act → World → Prop, (∀ a' v w', a' = (fr vs).put o.dst v → R.R (vs R.D) v w' → C (Listed.but L j) w' → T j w w' → K a' w') →
      if Region.wanted o (yielded ops (fr vs).tmps) = true then o.wp P (fr vs) w K Q else K ((fr vs).put o.dst undef) w) →
    wpFactsN P ops Q C T fr k l Rs →
    ∃ Rs' : List FactN, Rs'.length = k + l.length ∧ (∀ (j : Nat) (R : FactN), Rs'[j]? = some R → R.fine ops j ∧ R.firm ops T j) ∧
    (∀ (j : Nat) (o : Oper) (R : FactN), ops[j]? = some o → Rs'[j]? = some R → ∀ vs L w, Gone ops L j → C L w → (∀ (j' : Nat) (R' : FactN), ahead .any ops ops.size j j' = true → R'.live ops j = true → j' < j → Rs'[j']? = some R' → R'.at vs j' w) → ∀ K : Act → World → Prop, (∀ a' v w', a' = (fr vs).put o.dst v → R.R (vs R.D) v w' → C (Listed.but L j) w' → T j w w' → K a' w') →
      if Region.wanted o (yielded ops (fr vs).tmps) = true then o.wp P (fr vs) w K Q else K ((fr vs).put o.dst undef) w) ∧
    (∀ vs L w, (∀ j, j < ops.size → L j = true) → C L w → (∀ (j : Nat) (R : FactN), R.Br = [] → Rs'[j]? = some R → R.at vs j w) → Q .normal (fr vs) w)
  | [], k, Rs, hl, hlen, hst, hop, h => by
    refine ⟨Rs, by simpa using hlen, hst, fun j o R ho hR => hop j o R ?_ ho hR, h⟩
    rw [← hlen]; exact (List.getElem?_eq_some_iff.1 hR).1
  | o :: l, k, Rs, hl, hlen, hst, hop, h => by
    obtain ⟨R, hRf, hRs, hRo, hrest⟩ := h
    have ho : ops[k]? = some o := by simpa using (hl 0).symm
    have hold : ∀ j, j < k → (Rs ++ [R])[j]? = Rs[j]? := fun j hj => List.getElem?_append_left (by omega)
    have hnew : (Rs ++ [R])[k]? = some R := by rw [List.getElem?_append_right (by omega), hlen]; simp
    obtain ⟨Rs', h1, h2, h3, h4⟩ := wpFactsN_all l (k + 1) (Rs ++ [R]) (fun i => by have := hl (i + 1); simpa [Nat.add_assoc, Nat.add_comm 1 i] using this) (by simp [hlen])
      (fun j R' hR' => by
        rcases Nat.lt_trichotomy j k with hj | hj | hj
        · rw [hold j hj] at hR'; exact hst j R' hR'
        · subst hj; rw [hnew] at hR'; cases hR'; exact ⟨hRf, hRs⟩
        · rw [List.getElem?_eq_none (by simp [hlen]; omega)] at hR'; cases hR')
      (fun j o' R' hj ho' hR' vs L w hG hC hB K hK => by
        rcases Nat.lt_or_ge j k with hjk | hjk
        · rw [hold j hjk] at hR'
          exact hop j o' R' hjk ho' hR' vs L w hG hC (fun j' R'' ha hv hlt h'' => hB j' R'' ha hv hlt (by rw [hold j' (by omega)]; exact h'')) K hK
        · obtain rfl : j = k := by omega
          rw [ho] at ho'; cases ho'
          rw [hnew] at hR'; cases hR'
          refine hRo vs L w hG hC (fun j' R'' ha hv h'' => ?_) K hK
          have hlt : j' < Rs.length := (List.getElem?_eq_some_iff.1 h'').1
          exact hB j' R'' ha hv (by omega) (by rw [hold j' (by omega)]; exact h''))
      hrest
    exact ⟨Rs', by rw [h1]; simp; omega, h2, h3, h4⟩

theorem getD_set_self {i : Nat} {listed : Array Bool} (h : i < listed.size) : (listed.setIfInBounds i true).getD i false = true := by simp [h]
theorem wpAny_factsN {C : (Nat → Bool) → World → Prop} {T : Nat → World → World → Prop} {a₀ : Act} (hap : dstsApart ops.toList = true) (hdn : edgesDown .any ops = true) (Rs : List FactN) (hlen : Rs.length = ops.size)
    (hst : ∀ (j : Nat) (R : FactN), Rs[j]? = some R → R.fine ops j ∧ R.firm ops T j)
    (hop : ∀ (j : Nat) (o : Oper) (R : FactN), ops[j]? = some o → Rs[j]? = some R → ∀ vs L w, Gone ops L j → C L w → (∀ (j' : Nat) (R' : FactN), ahead .any ops ops.size j j' = true → R'.live ops j = true → j' < j → Rs[j']? = some R' → R'.at vs j' w) → ∀ K : Act → World → Prop, (∀ a' v w', a' = (fillOps vs ops.toList 0 a₀).put o.dst v → R.R (vs R.D) v w' → C (Listed.but L j) w' → T j w w' → K a' w') →
      if Region.wanted o (yielded ops (fillOps vs ops.toList 0 a₀).tmps) = true then o.wp P (fillOps vs ops.toList 0 a₀) w K Q else K ((fillOps vs ops.toList 0 a₀).put o.dst undef) w)
    (hend : ∀ vs L w, (∀ j, j < ops.size → L j = true) → C L w → (∀ (j : Nat) (R : FactN), R.Br = [] → Rs[j]? = some R → R.at vs j w) → Q .normal (fillOps vs ops.toList 0 a₀) w) :
    ∀ (fuel : Nat) (listed : Array Bool) (vs : Nat → Value) (w : World), listed.size = ops.size → unlisted ops.size listed ≤ fuel → Closed .any ops listed → C (fun j => listed.getD j false) w → (∀ (j : Nat) (R : FactN), listed.getD j false = true → (∀ i ∈ R.Br, listed.getD i false = false) → Rs[j]? = some R → R.at vs j w) →
      wpAny P .any ops Q fuel listed (fillOps vs ops.toList 0 a₀) w := by
  have hfin : ∀ (listed : Array Bool) (vs : Nat → Value) (w : World), listed.size = ops.size → C (fun j => listed.getD j false) w → (∀ (j : Nat) (R : FactN), listed.getD j false = true → (∀ i ∈ R.Br, listed.getD i false = false) → Rs[j]? = some R → R.at vs j w) → Region.ready .any ops listed = [] → Q .normal (fillOps vs ops.toList 0 a₀) w :=
    fun listed vs w hs hC hR hr => hend vs _ w (fun j hj => listed_ready hdn hs hr j hj) hC fun j R hbr hj => hR j R (listed_ready hdn hs hr j (by rw [← hlen]; exact (List.getElem?_eq_some_iff.1 hj).1)) (by rw [hbr]; intro i hi; cases hi) hj
  intro fuel
  induction fuel with
  | zero =>
    intro listed vs w hs hu hcl hC hR
    have hr : Region.ready .any ops listed = [] := by
      rw [List.eq_nil_iff_forall_not_mem]
      intro j hj
      obtain ⟨h0, o, ho, _⟩ := mem_ready.1 hj
      have hjs : j < ops.size := (Array.getElem?_eq_some_iff.1 ho).1
      have : unlisted ops.size (listed.setIfInBounds j true) < unlisted ops.size listed := unlisted_set hjs hs (by
        have : j < listed.size := by omega
        simp only [Array.getD, this, ↓reduceDIte] at h0 ⊢; exact h0)
      omega
    exact ⟨hr, hfin listed vs w hs hC hR hr⟩
  | succ fuel ih =>
    intro listed vs w hs hu hcl hC hR
    refine ⟨hfin listed vs w hs hC hR, fun i hi => ?_⟩
    obtain ⟨h0, o, ho, hall⟩ := mem_ready.1 hi
    have hisz : i < ops.size := (Array.getElem?_eq_some_iff.1 ho).1
    have hil : i < listed.size := by omega
    have h0' : listed.getD i false = false := by simp only [Array.getD, hil, ↓reduceDIte] at h0 ⊢; exact h0
    obtain ⟨R, hRi⟩ : ∃ R, Rs[i]? = some R := ⟨Rs[i]'(by omega), List.getElem?_eq_getElem (by omega)⟩
    have hclo : ∀ j, ahead .any ops ops.size i j = true → listed.getD j false = true := fun j ha => ahead_listed hcl ops.size i j (fun o' ho' => by rw [ho] at ho'; cases ho'; exact hall) ha
    have hopn : ∀ j, ahead .any ops ops.size j i = true → listed.getD j false = false := fun j ha => by
      rcases hq : listed.getD j false with _ | _
      · rfl
      · have hl := ahead_listed hcl ops.size j i (fun o' ho' => hcl j o' ho' hq) ha
        rw [h0'] at hl; cases hl
    have hstep := hop i o R ho hRi vs (fun j => listed.getD j false) w ⟨h0', hclo, hopn⟩ hC (fun j' R' ha hv _ hR' => hR j' R' (ahead_listed hcl ops.size i j' (fun o' ho' => by rw [ho] at ho'; cases ho'; exact hall) ha) (fun i' hi' => by
        have hv' := List.all_eq_true.1 hv i' hi'
        simp only [Bool.or_eq_true, beq_iff_eq] at hv'
        rcases hv' with rfl | hv'
        · exact h0'
        · rcases hq : listed.getD i' false with _ | _
          · rfl
          · have hl := ahead_listed hcl ops.size i' i (fun o' ho' => hcl i' o' ho' hq) hv'
            rw [h0'] at hl; cases hl) hR')
      (wpAny P .any ops Q fuel (listed.setIfInBounds i true)) (fun a' v w' ha hRv hC' hT => by
        rw [ha, fillOps_upd ops.toList 0 a₀ vs i o v hap (by simpa using ho), Nat.zero_add]
        have hC9 : C (fun j => (listed.setIfInBounds i true).getD j false) w' := by
          have e : (fun j => (listed.setIfInBounds i true).getD j false) = Listed.but (fun j => listed.getD j false) i := by
            funext j
            unfold Listed.but
            by_cases e : j = i
            · subst e; rw [if_pos rfl]; exact getD_set_self hil
            · rw [if_neg e]; exact getD_set_ne false (Ne.symm e)
          rw [e]; exact hC'
        refine ih _ _ _ (by simpa using hs) ?_ ?_ hC9 ?_
        · have := unlisted_set hisz hs h0'; omega
        · intro j oj hoj hj e he hb
          by_cases hji : j = i
          · subst hji; rw [ho] at hoj; cases hoj; exact getD_set_true (hall e he hb)
          · rw [getD_set_ne false (Ne.symm hji)] at hj; exact getD_set_true (hcl j oj hoj hj e he hb)
        · intro j R' hj hbr hR'
          have key : ∀ (u' : Value), R'.R (vs R'.D) u' w' → R'.R (upd vs i v R'.D) u' w' := fun u' h => by
            by_cases hDi : R'.D = i
            · rcases (hst j R' hR').1 with hf | ha
              · exact hf _ _ _ _ h
              · exfalso
                have hl : listed.getD R'.D false = true := by
                  by_cases hji : j = i
                  · subst hji; exact ahead_listed hcl ops.size j _ (fun o' ho' => by rw [ho] at ho'; cases ho'; exact hall) ha
                  · rw [getD_set_ne false (Ne.symm hji)] at hj
                    exact ahead_listed hcl ops.size j _ (fun o' ho' => hcl j o' ho' hj) ha
                rw [hDi, h0'] at hl; cases hl
            · have : upd vs i v R'.D = vs R'.D := by unfold upd; rw [if_neg hDi]
              rw [this]; exact h
          unfold FactN.at
          by_cases hji : j = i
          · subst hji; rw [hRi] at hR'; cases hR'
            have : upd vs j v j = v := by unfold upd; rw [if_pos rfl]
            rw [this]
            exact key v hRv
          · rw [getD_set_ne false (Ne.symm hji)] at hj
            have hai : ahead .any ops ops.size j i = false := by
              rcases hq : ahead .any ops ops.size j i with _ | _
              · rfl
              · have hl := ahead_listed hcl ops.size j i (fun o' ho' => hcl j o' ho' hj) hq
                rw [h0'] at hl; cases hl
            have hib : i ∉ R'.Br := fun hm => by have h1 := hbr i hm; rw [getD_set_self hil] at h1; cases h1
            have hbr' : ∀ i' ∈ R'.Br, listed.getD i' false = false := fun i' hm => by
              have h1 := hbr i' hm
              by_cases e : i' = i
              · subst e; exact absurd hm hib
              · rwa [getD_set_ne false (Ne.symm e)] at h1
            have h3 := (hst j R' hR').2 i (Ne.symm hji) hib hai _ _ _ _ (hR j R' hj hbr' hR') hT
            have : upd vs i v j = vs j := by unfold upd; rw [if_neg hji]
            rw [this]
            refine key _ ?_
            exact h3)
    unfold wpOp
    simp only [ho]
    split
    · rename_i hw; rw [if_pos hw] at hstep; exact .inl hstep
    · rename_i hw; rw [if_neg hw] at hstep; exact hstep

/-- The region. -/
theorem wp_region_factsN {id : Nat} {a : Act} {w : World} {l : List Oper} (C : (Nat → Bool) → World → Prop) (T : Nat → World → World → Prop) (hm : P.follows .mixedOrders = true) (hap : dstsApart l = true) (hdn : edgesDown .any l.toArray = true)
    (hC : C (fun _ => false) w.drew) (h : wpFactsN P l.toArray Q C T (fun vs => fillOps vs l 0 a) 0 l []) : (Code.region id l.toArray true).wp P Q a w := by
  refine wp_region_any hm ?_
  obtain ⟨Rs, h1, h2, h3, h4⟩ := wpFactsN_all (ops := l.toArray) l 0 [] (by simp) rfl (by simp) (by simp) h
  obtain ⟨vs, hvs⟩ : ∃ vs : Nat → Value, ∀ i o t, l[i]? = some o → o.dst = some t → vs (0 + i) = a.tmps.getD t undef :=
    ⟨fun i => match (l[i]?).bind (·.dst) with | some t => a.tmps.getD t undef | none => undef, fun i o t hi ht => by simp [hi, ht]⟩
  have := wpAny_factsN (P := P) (Q := Q) (ops := l.toArray) (C := C) (T := T) (a₀ := a) hap hdn Rs (by simpa using h1) h2 h3 h4 l.toArray.size (Array.replicate l.toArray.size false) vs w.drew (by simp)
    (Nat.le_trans (List.length_filter_le _ _) (by simp)) (fun j o hj hl => by simp [Array.getD] at hl) (by
      have e : (fun j => (Array.replicate l.toArray.size false).getD j false) = fun _ => false := by funext j; simp [Array.getD]
      rw [e]; exact hC) (fun j R hl => by simp [Array.getD] at hl)
  rwa [fillOps_self vs _ 0 a (by simpa using hvs)] at this

theorem wpFactsN_nil {C : (Nat → Bool) → World → Prop} {T : Nat → World → World → Prop} {fr : (Nat → Value) → Act} {k : Nat} {Rs : List FactN} (h : ∀ vs L w, (∀ j, j < ops.size → L j = true) → C L w → (∀ (j : Nat) (R : FactN), R.Br = [] → Rs[j]? = some R → R.at vs j w) → Q .normal (fr vs) w) : wpFactsN P ops Q C T fr k [] Rs := h
/-- An operation with one value. -/
theorem wpFactsN_val {C : (Nat → Bool) → World → Prop} {T : Nat → World → World → Prop} {fr : (Nat → Value) → Act} {k : Nat} {o : Oper} {l : List Oper} {Rs : List FactN} (V : Value)
    (h1 : ∀ vs L w, Gone ops L k → C L w → (∀ (j : Nat) (R' : FactN), ahead .any ops ops.size k j = true → R'.live ops k = true → Rs[j]? = some R' → R'.at vs j w) → ∀ K : Act → World → Prop, (∀ a' w', a' = (fr vs).put o.dst V → C (Listed.but L k) w' → T k w w' → K a' w') →
      if Region.wanted o (yielded ops (fr vs).tmps) = true then o.wp P (fr vs) w K Q else K ((fr vs).put o.dst undef) w)
    (h2 : wpFactsN P ops Q C T fr (k + 1) l (Rs ++ [⟨0, fun _ v _ => v = V, []⟩])) : wpFactsN P ops Q C T fr k (o :: l) Rs :=
  ⟨⟨0, fun _ v _ => v = V, []⟩, .inl (fun _ _ _ _ h => h), fun _ _ _ _ _ _ _ _ h _ => h, fun vs L w hG hC hB K hK => h1 vs L w hG hC hB K fun a' w' ha hC' hT => hK a' V w' ha rfl hC' hT, h2⟩
/-- An operation whose value has a property. -/
theorem wpFactsN_some {C : (Nat → Bool) → World → Prop} {T : Nat → World → World → Prop} {fr : (Nat → Value) → Act} {k : Nat} {o : Oper} {l : List Oper} {Rs : List FactN} (Br : List Nat) (R : Value → World → Prop) (hR : ∀ i, i ≠ k → i ∉ Br → ahead .any ops ops.size k i = false → ∀ v w w', R v w → T i w w' → R v w')
    (h1 : ∀ vs L w, Gone ops L k → C L w → (∀ (j : Nat) (R' : FactN), ahead .any ops ops.size k j = true → R'.live ops k = true → Rs[j]? = some R' → R'.at vs j w) → ∀ K : Act → World → Prop, (∀ a' v w', a' = (fr vs).put o.dst v → R v w' → C (Listed.but L k) w' → T k w w' → K a' w') →
      if Region.wanted o (yielded ops (fr vs).tmps) = true then o.wp P (fr vs) w K Q else K ((fr vs).put o.dst undef) w)
    (h2 : wpFactsN P ops Q C T fr (k + 1) l (Rs ++ [⟨0, fun _ v w => R v w, Br⟩])) : wpFactsN P ops Q C T fr k (o :: l) Rs :=
  ⟨⟨0, fun _ v w => R v w, Br⟩, .inl (fun _ _ _ _ h => h), fun i hi hb ha _ v w w' h t => hR i hi hb ha v w w' h t, h1, h2⟩
/-- An operation whose value has a property that speaks of an operation ahead. -/
theorem wpFactsN_pair {C : (Nat → Bool) → World → Prop} {T : Nat → World → World → Prop} {fr : (Nat → Value) → Act} {k : Nat} {o : Oper} {l : List Oper} {Rs : List FactN} (Br : List Nat) (D : Nat) (R : Value → Value → World → Prop) (hD : ahead .any ops ops.size k D = true) (hR : ∀ i, i ≠ k → i ∉ Br → ahead .any ops ops.size k i = false → ∀ u v w w', R u v w → T i w w' → R u v w')
    (h1 : ∀ vs L w, Gone ops L k → C L w → (∀ (j : Nat) (R' : FactN), ahead .any ops ops.size k j = true → R'.live ops k = true → Rs[j]? = some R' → R'.at vs j w) → ∀ K : Act → World → Prop, (∀ a' v w', a' = (fr vs).put o.dst v → R (vs D) v w' → C (Listed.but L k) w' → T k w w' → K a' w') →
      if Region.wanted o (yielded ops (fr vs).tmps) = true then o.wp P (fr vs) w K Q else K ((fr vs).put o.dst undef) w)
    (h2 : wpFactsN P ops Q C T fr (k + 1) l (Rs ++ [⟨D, R, Br⟩])) : wpFactsN P ops Q C T fr k (o :: l) Rs :=
  ⟨⟨D, R, Br⟩, .inr hD, hR, h1, h2⟩
end
/-- One thing holds until operation s has been, another from then on. -/
def Sw (s : Nat) (C0 C1 : World → Prop) (L : Nat → Bool) (w : World) : Prop := if L s = true then C1 w else C0 w
section
variable {ops : Array Oper} {s k : Nat} {C0 C1 : World → Prop} {L : Nat → Bool} {w w' : World}
theorem Sw.start (h : C0 w) : Sw s C0 C1 (fun _ => false) w := by unfold Sw; rw [if_neg (by simp)]; exact h
theorem Sw.before (hG : Gone ops L k) (ha : ahead .any ops ops.size s k = true) (h : Sw s C0 C1 L w) : C0 w := by
  unfold Sw at h; rwa [if_neg (by rw [hG.open_ s ha]; simp)] at h
theorem Sw.stay (hG : Gone ops L k) (ha : ahead .any ops ops.size s k = true) (hne : s ≠ k) (h : C0 w) : Sw s C0 C1 (Listed.but L k) w := by
  unfold Sw Listed.but; rw [if_neg (by rw [if_neg hne, hG.open_ s ha]; simp)]; exact h
theorem Sw.here (hG : Gone ops L s) (h : Sw s C0 C1 L w) : C0 w := by unfold Sw at h; rwa [if_neg (by rw [hG.self]; simp)] at h
theorem Sw.turn (h : C1 w) : Sw s C0 C1 (Listed.but L s) w := by unfold Sw Listed.but; rw [if_pos (if_pos rfl)]; exact h
theorem Sw.after (hG : Gone ops L k) (ha : ahead .any ops ops.size k s = true) (h : Sw s C0 C1 L w) : C1 w := by unfold Sw at h; rwa [if_pos (hG.done s ha)] at h
theorem Sw.on (hG : Gone ops L k) (ha : ahead .any ops ops.size k s = true) (h : C1 w) : Sw s C0 C1 (Listed.but L k) w := by
  unfold Sw Listed.but; rw [if_pos (by rw [hG.done s ha]; simp)]; exact h
theorem Sw.both (hne : s ≠ k) (h0 : C0 w → C0 w') (h1 : C1 w → C1 w') (h : Sw s C0 C1 L w) : Sw s C0 C1 (Listed.but L k) w' := by
  unfold Sw Listed.but at *
  rw [if_neg hne]
  split at h
  · rename_i e; rw [if_pos e]; exact h1 h
  · rename_i e; rw [if_neg e]; exact h0 h
theorem Sw.done (hL : ∀ j, j < ops.size → L j = true) (hs : s < ops.size) (h : Sw s C0 C1 L w) : C1 w := by unfold Sw at h; rwa [if_pos (hL s hs)] at h
end
end Go.Proofs.YtojceibamgodbaaGreatDoor

/- The facts law with its facts the other way round: cheap look-ups. -/
namespace Go.Proofs.YtojceibamgodbaaGreatDoor
open Go.RowKit

section
variable {P : Program} {ops : Array Oper} {Q : Exit → Act → World → Prop}
/-- The same walk, the facts' list the other way round (its look-ups stay cheap). -/
def wpFactsR (P : Program) (ops : Array Oper) (Q : Exit → Act → World → Prop) (C : (Nat → Bool) → World → Prop) (T : Nat → World → World → Prop) (fr : (Nat → Value) → Act) : Nat → List Oper → List FactN → Prop
  | k, [], Rs => ∀ vs L w, (∀ j, j < ops.size → L j = true) → C L w → (∀ (j : Nat) (R : FactN), R.Br = [] → Rs[k - 1 - j]? = some R → j < k → R.at vs j w) → Q .normal (fr vs) w
  | k, o :: l, Rs => ∃ R : FactN, R.fine ops k ∧ R.firm ops T k ∧
    (∀ vs L w, Gone ops L k → C L w → (∀ (j : Nat) (R' : FactN), ahead .any ops ops.size k j = true → R'.live ops k = true → Rs[k - 1 - j]? = some R' → j < k → R'.at vs j w) → ∀ K : Act → World → Prop, (∀ a' v w', a' = (fr vs).put o.dst v → R.R (vs R.D) v w' → C (Listed.but L k) w' → T k w w' → K a' w') →
      if Region.wanted o (yielded ops (fr vs).tmps) = true then o.wp P (fr vs) w K Q else K ((fr vs).put o.dst undef) w) ∧
    wpFactsR P ops Q C T fr (k + 1) l (R :: Rs)
theorem rev_look {Rs : List FactN} {k j : Nat} {R : FactN} (hk : Rs.length = k) (h : Rs[k - 1 - j]? = some R) (hj : j < k) : Rs.reverse[j]? = some R := by
  rw [List.getElem?_reverse (by omega), hk]; exact h
theorem wpFactsR_N {C : (Nat → Bool) → World → Prop} {T : Nat → World → World → Prop} {fr : (Nat → Value) → Act} : ∀ (l : List Oper) (k : Nat) (Rs : List FactN), Rs.length = k → wpFactsR P ops Q C T fr k l Rs → wpFactsN P ops Q C T fr k l Rs.reverse
  | [], _, _, hk, h => fun vs L w hL hC hB => h vs L w hL hC fun j R hb hR hj => hB j R hb (rev_look hk hR hj)
  | _ :: l, k, Rs, hk, ⟨R, h1, h2, h3, h4⟩ => ⟨R, h1, h2, fun vs L w hG hC hB K hK => h3 vs L w hG hC (fun j R' ha hv hR hj => hB j R' ha hv (rev_look hk hR hj)) K hK, by
      have := wpFactsR_N l (k + 1) (R :: Rs) (by simp [hk]) h4
      rwa [List.reverse_cons] at this⟩
theorem wp_region_factsR {id : Nat} {a : Act} {w : World} {l : List Oper} (C : (Nat → Bool) → World → Prop) (T : Nat → World → World → Prop) (hm : P.follows .mixedOrders = true) (hap : dstsApart l = true) (hdn : edgesDown .any l.toArray = true)
    (hC : C (fun _ => false) w.drew) (h : wpFactsR P l.toArray Q C T (fun vs => fillOps vs l 0 a) 0 l []) : (Code.region id l.toArray true).wp P Q a w :=
  wp_region_factsN C T hm hap hdn hC (wpFactsR_N l 0 [] rfl h)
theorem wpFactsR_nil {C : (Nat → Bool) → World → Prop} {T : Nat → World → World → Prop} {fr : (Nat → Value) → Act} {k : Nat} {Rs : List FactN} (h : ∀ vs L w, (∀ j, j < ops.size → L j = true) → C L w → (∀ (j : Nat) (R : FactN), R.Br = [] → Rs[k - 1 - j]? = some R → j < k → R.at vs j w) → Q .normal (fr vs) w) : wpFactsR P ops Q C T fr k [] Rs := h
theorem wpFactsR_val {C : (Nat → Bool) → World → Prop} {T : Nat → World → World → Prop} {fr : (Nat → Value) → Act} {k : Nat} {o : Oper} {l : List Oper} {Rs : List FactN} (V : Value)
    (h1 : ∀ vs L w, Gone ops L k → C L w → (∀ (j : Nat) (R' : FactN), ahead .any ops ops.size k j = true → R'.live ops k = true → Rs[k - 1 - j]? = some R' → j < k → R'.at vs j w) → ∀ K : Act → World → Prop, (∀ a' w', a' = (fr vs).put o.dst V → C (Listed.but L k) w' → T k w w' → K a' w') →
      if Region.wanted o (yielded ops (fr vs).tmps) = true then o.wp P (fr vs) w K Q else K ((fr vs).put o.dst undef) w)
    (h2 : wpFactsR P ops Q C T fr (k + 1) l (⟨0, fun _ v _ => v = V, []⟩ :: Rs)) : wpFactsR P ops Q C T fr k (o :: l) Rs :=
  ⟨⟨0, fun _ v _ => v = V, []⟩, .inl (fun _ _ _ _ h => h), fun _ _ _ _ _ _ _ _ h _ => h, fun vs L w hG hC hB K hK => h1 vs L w hG hC hB K fun a' w' ha hC' hT => hK a' V w' ha rfl hC' hT, h2⟩
theorem wpFactsR_some {C : (Nat → Bool) → World → Prop} {T : Nat → World → World → Prop} {fr : (Nat → Value) → Act} {k : Nat} {o : Oper} {l : List Oper} {Rs : List FactN} (Br : List Nat) (R : Value → World → Prop) (hR : ∀ i, i ≠ k → i ∉ Br → ahead .any ops ops.size k i = false → ∀ v w w', R v w → T i w w' → R v w')
    (h1 : ∀ vs L w, Gone ops L k → C L w → (∀ (j : Nat) (R' : FactN), ahead .any ops ops.size k j = true → R'.live ops k = true → Rs[k - 1 - j]? = some R' → j < k → R'.at vs j w) → ∀ K : Act → World → Prop, (∀ a' v w', a' = (fr vs).put o.dst v → R v w' → C (Listed.but L k) w' → T k w w' → K a' w') →
      if Region.wanted o (yielded ops (fr vs).tmps) = true then o.wp P (fr vs) w K Q else K ((fr vs).put o.dst undef) w)
    (h2 : wpFactsR P ops Q C T fr (k + 1) l (⟨0, fun _ v w => R v w, Br⟩ :: Rs)) : wpFactsR P ops Q C T fr k (o :: l) Rs :=
  ⟨⟨0, fun _ v w => R v w, Br⟩, .inl (fun _ _ _ _ h => h), fun i hi hb ha _ v w w' h t => hR i hi hb ha v w w' h t, h1, h2⟩
theorem wpFactsR_pair {C : (Nat → Bool) → World → Prop} {T : Nat → World → World → Prop} {fr : (Nat → Value) → Act} {k : Nat} {o : Oper} {l : List Oper} {Rs : List FactN} (Br : List Nat) (D : Nat) (R : Value → Value → World → Prop) (hD : ahead .any ops ops.size k D = true) (hR : ∀ i, i ≠ k → i ∉ Br → ahead .any ops ops.size k i = false → ∀ u v w w', R u v w → T i w w' → R u v w')
    (h1 : ∀ vs L w, Gone ops L k → C L w → (∀ (j : Nat) (R' : FactN), ahead .any ops ops.size k j = true → R'.live ops k = true → Rs[k - 1 - j]? = some R' → j < k → R'.at vs j w) → ∀ K : Act → World → Prop, (∀ a' v w', a' = (fr vs).put o.dst v → R (vs D) v w' → C (Listed.but L k) w' → T k w w' → K a' w') →
      if Region.wanted o (yielded ops (fr vs).tmps) = true then o.wp P (fr vs) w K Q else K ((fr vs).put o.dst undef) w)
    (h2 : wpFactsR P ops Q C T fr (k + 1) l (⟨D, R, Br⟩ :: Rs)) : wpFactsR P ops Q C T fr k (o :: l) Rs :=
  ⟨⟨D, R, Br⟩, .inr hD, hR, h1, h2⟩
end
end Go.Proofs.YtojceibamgodbaaGreatDoor

/- Worlds that grow (no program in sight). -/
namespace Go.Proofs.YtojceibamgodbaaGreatDoor
open Go.RowKit

theorem grown_trans {a b c : World} {row : Option Nat} (h : a.grownBy b row) (k : b.grownBy c row) : a.grownBy c row :=
  ⟨k.os.trans h.os, k.tape.trans h.tape, k.output.trans h.output, Nat.le_trans h.size k.size, fun j hj hne => (k.block j (Nat.lt_of_lt_of_le hj h.size) hne).trans (h.block j hj hne)⟩
end Go.Proofs.YtojceibamgodbaaGreatDoor

/- FormatConsole in the reference. (Printed by gen_fmts.py) -/
namespace Go.Proofs.YtojceibamgodbaaGreatDoor
open Go.RowKit

set_option maxRecDepth 100000 in
set_option maxHeartbeats 8000000 in
set_option linter.unusedVariables false in
theorem specFormat_any (x : Off) (l : Lg) (w : World) (h : OffR w w.heap.size x) (hs : l.D.size + l.P.size ≤ 2000000) :
    Calls Tryz.prog 5 #[conVal x l] w fun e w' => e = .returned (.tuple #[.string (conV x l), .bool (conOk x l)]) ∧ Below w.heap.size w w' := by
  have b0 := (Below.refl w.heap.size w).alloc (Nat.le_refl _) (.cells #[.slice x.TA x.t.length x.tc, .slice x.OA x.o.length x.oc, .int .i64 x.got, .int .i64 x.sold, .int .i64 x.missed, .string l.D, .string l.P, .int .i64 l.n] 39)
  have L0 := Lies.new w 39 #[.slice x.TA x.t.length x.tc, .slice x.OA x.o.length x.oc, .int .i64 x.got, .int .i64 x.sold, .int .i64 x.missed, .string l.D, .string l.P, .int .i64 l.n]
  have hW := h.up b0 (Nat.le_refl _)
  have HI := Lib.hid (fun W h => l34Good_any x l W h hs)
  obtain ⟨ok, hok⟩ : ∃ b, conOk x l = b := ⟨_, rfl⟩
  rw [hok] at HI
  have HOK := Lib.hid hok
  clear hok
  go_enter Tryz.func5, Tryz.ntmps5
  go_wp2_with fail
  generalize w.alloc (.cells #[.slice x.TA x.t.length x.tc, .slice x.OA x.o.length x.oc, .int .i64 x.got, .int .i64 x.sold, .int .i64 x.missed, .string l.D, .string l.P, .int .i64 l.n] 39) = W at b0 L0 hW ⊢
  generalize hgb : w.heap.size = g at L0 ⊢
  refine (HI.out W hW).mono ?_
  rintro e w1 ⟨rfl, hb1⟩
  have L1 := L0.below hb1 L0.lt
  have hW1 := hW.then hb1
  have c1 : Below w.heap.size w w1 := bthen b0 hb1
  rw [hgb] at c1
  clear hb1 L0 hW b0
  cases ok with
  | false =>
    have HV : Hid (conV x l = ⟨#[]⟩) := by unfold conV; rw [HOK.out]; rfl
    clear L1 hW1
    go_wp2_with fail
    go_ret2
    rw [HV.out, HOK.out]
    exact ⟨rfl, by rw [hgb]; exact c1⟩
  | true =>
    have G := conOk_good HOK.out
    have hn := conOk_num HOK.out
    have HV : Hid (conV x l = ⟨(rowsB x x.t ++ endB x l).toArray⟩) := by unfold conV; rw [HOK.out]; rfl
    have tl := G.tl
    have GG := Lib.hid G
    have HN4 := Lib.hid (And.intro G.g (And.intro G.s (And.intro G.m hn)))
    clear G hn
    go_upto_region 3 with fail
    refine wp_region_factsR (fun _ => (fun W9 => Below w1.heap.size w1 W9)) (fun i w1 w2 => i ∉ [4] → Below w1.heap.size w1 w2) (by kernel_rfl) (by kernel_rfl) (by kernel_rfl) (Below.refl _ _).drew ?_
    simp only [fillOps, Act.put, List.setIfInBounds_toArray, List.set_cons_zero, List.set_cons_succ, Nat.zero_add, Nat.reduceAdd]
    apply wpFactsR_val
    case h1 =>
      intro vs L9 w9 hG9 hC9 hB K9 hK9
      simp only [Act.put, List.setIfInBounds_toArray, List.set_cons_zero, List.set_cons_succ] at hK9
      go_simp
      exact hK9 _ _ rfl hC9 (fun _ => Below.refl _ _)
    apply wpFactsR_val
    case h1 =>
      intro vs L9 w9 hG9 hC9 hB K9 hK9
      have d0 := FactN.eq (hB 0 _ (by kernel_rfl) (by kernel_rfl) rfl (by decide))
      simp only [d0] at hK9 ⊢
      have q0 : w9.cell? ⟨g, 0, none⟩ = some (.slice x.TA x.t.length x.tc) := (L1.below hC9 L1.lt).cell 0
      have q1 : w9.cell? ⟨g, 1, none⟩ = some (.slice x.OA x.o.length x.oc) := (L1.below hC9 L1.lt).cell 1
      have q2 : w9.cell? ⟨g, 2, none⟩ = some (.int .i64 x.got) := (L1.below hC9 L1.lt).cell 2
      have q3 : w9.cell? ⟨g, 3, none⟩ = some (.int .i64 x.sold) := (L1.below hC9 L1.lt).cell 3
      have q4 : w9.cell? ⟨g, 4, none⟩ = some (.int .i64 x.missed) := (L1.below hC9 L1.lt).cell 4
      simp only [Act.put, List.setIfInBounds_toArray, List.set_cons_zero, List.set_cons_succ] at hK9
      go_simp
      exact hK9 _ _ rfl hC9 (fun _ => Below.refl _ _)
    refine wpFactsR_some [4] (fun v w9 => ∃ g9, v = .pointer (some ⟨g9, 0, none⟩) ∧ w1.heap.size ≤ g9 ∧ Lies w9 g9 36 [.slice none 0 0, .slice none 0 0, .int .i64 0, .int .i64 0, .int .i64 0]) ?_ (fun vs L9 w9 hG9 hC9 hB K9 hK9 => ?_) ?_
    next =>
      intro i9 hi9 hb9 ha9 v w1 w2 hv hT9
      have hb := hT9 (fun hm => by
        simp only [List.mem_cons, List.not_mem_nil, or_false] at hm hb9
        subst hm
        · exact hb9 (by simp))
      obtain ⟨g9, q1, q2, q3⟩ := hv
      exact ⟨g9, q1, q2, q3.below hb q3.lt⟩
    next =>
      simp only [Act.put, List.setIfInBounds_toArray, List.set_cons_zero, List.set_cons_succ] at hK9
      go_simp
      have hb8 := (Below.refl w9.heap.size w9).alloc (Nat.le_refl _) (.cells #[.slice none 0 0, .slice none 0 0, .int .i64 0, .int .i64 0, .int .i64 0] 36)
      exact hK9 _ _ _ rfl ⟨_, rfl, hC9.size, Lies.new w9 36 #[.slice none 0 0, .slice none 0 0, .int .i64 0, .int .i64 0, .int .i64 0]⟩ (hC9.trans (hb8.mono hC9.size)) (fun _ => hb8)
    apply wpFactsR_val
    case h1 =>
      intro vs L9 w9 hG9 hC9 hB K9 hK9
      simp only [Act.put, List.setIfInBounds_toArray, List.set_cons_zero, List.set_cons_succ] at hK9
      go_simp
      exact hK9 _ _ rfl hC9 (fun _ => Below.refl _ _)
    refine wpFactsR_pair [] 2 (fun u _ w9 => ∃ g9, u = .pointer (some ⟨g9, 0, none⟩) ∧ w1.heap.size ≤ g9 ∧ Lies w9 g9 36 [.slice x.TA x.t.length x.tc, .slice x.OA x.o.length x.oc, .int .i64 x.got, .int .i64 x.sold, .int .i64 x.missed]) (by kernel_rfl) ?_ (fun vs L9 w9 hG9 hC9 hB K9 hK9 => ?_) ?_
    next =>
      intro i9 hi9 hb9 ha9 u v w1 w2 hv hT9
      have hb := hT9 (fun hm => by
        simp only [List.mem_cons, List.not_mem_nil, or_false] at hm hb9
        subst hm
        · exact hi9 rfl)
      obtain ⟨g9, q1, q2, q3⟩ := hv
      exact ⟨g9, q1, q2, q3.below hb q3.lt⟩
    next =>
      have d1 := FactN.eq (hB 1 _ (by kernel_rfl) (by kernel_rfl) rfl (by decide))
      simp only [d1] at hK9 ⊢
      obtain ⟨g9, hv9, hg9, hA9⟩ := hB 2 _ (by kernel_rfl) (by kernel_rfl) rfl (by decide)
      simp only [hv9] at hK9 ⊢
      have z0 := hA9.cell 0
      have z1 := hA9.cell 1
      have z2 := hA9.cell 2
      have z3 := hA9.cell 3
      have z4 := hA9.cell 4
      simp only [List.getElem?_cons_zero, List.getElem?_cons_succ] at z0 z1 z2 z3 z4
      have f0 := hA9.frozen 0
      have f1 := hA9.frozen 1
      have f2 := hA9.frozen 2
      have f3 := hA9.frozen 3
      have f4 := hA9.frozen 4
      have hN8 := Lib.hid (show Lies _ g9 36 [.slice x.TA x.t.length x.tc, .slice x.OA x.o.length x.oc, .int .i64 x.got, .int .i64 x.sold, .int .i64 x.missed] from (((((hA9.set 0 (.slice x.TA x.t.length x.tc)).set 1 (.slice x.OA x.o.length x.oc)).set 2 (.int .i64 x.got)).set 3 (.int .i64 x.sold)).set 4 (.int .i64 x.missed)))
      have hD8 := Lib.hid (hC9.grown (row := some g9) (grown_set (g := g9) (i := 4) (u := .int .i64 x.missed) (grown_set (g := g9) (i := 3) (u := .int .i64 x.sold) (grown_set (g := g9) (i := 2) (u := .int .i64 x.got) (grown_set (g := g9) (i := 1) (u := .slice x.OA x.o.length x.oc) (grown_set (g := g9) (i := 0) (u := .slice x.TA x.t.length x.tc) (World.grownBy.refl _ _)))))) hC9.size (by rintro _ ⟨⟩; exact hg9))
      clear hA9
      go_simp
      exact hK9 _ undef _ rfl ⟨g9, rfl, hg9, hN8.out⟩ hD8.out (fun hq => (hq (by decide)).elim)
    refine wpFactsR_nil fun vs L9 w2 hL9 hC9 hB => ?_
    obtain ⟨g5, hvg, hg5, K5⟩ := hB 4 _ rfl rfl (by decide)
    have d3 := FactN.eq (hB 3 _ rfl rfl (by decide))
    simp only [hvg, d3]
    clear hB hL9 hvg d3
    have L2 := L1.below hC9 L1.lt
    have hW2 := hW1.up hC9 (Nat.le_refl _)
    have c2 : Below g w w2 := c1.trans (hC9.mono (by have := c1.size; omega))
    have k7 := L2.cell 7
    simp only [List.getElem?_cons_zero, List.getElem?_cons_succ] at k7
    have r7 : ∀ p : Since w2.heap.size w2, p.val.cell? ⟨g, 7, none⟩ = some (.int .i64 l.n) := fun p => (p.cell L2.lt).trans k7
    have m0 := K5.cell 0
    have m1 := K5.cell 1
    have m2 := K5.cell 2
    have m3 := K5.cell 3
    have m4 := K5.cell 4
    simp only [List.getElem?_cons_zero, List.getElem?_cons_succ] at m0 m1 m2 m3 m4
    have s0 : ∀ p : Since w2.heap.size w2, p.val.cell? ⟨g5, 0, none⟩ = some (.slice x.TA x.t.length x.tc) := fun p => (p.cell K5.lt).trans m0
    have s1 : ∀ p : Since w2.heap.size w2, p.val.cell? ⟨g5, 1, none⟩ = some (.slice x.OA x.o.length x.oc) := fun p => (p.cell K5.lt).trans m1
    have s2 : ∀ p : Since w2.heap.size w2, p.val.cell? ⟨g5, 2, none⟩ = some (.int .i64 x.got) := fun p => (p.cell K5.lt).trans m2
    have s3 : ∀ p : Since w2.heap.size w2, p.val.cell? ⟨g5, 3, none⟩ = some (.int .i64 x.sold) := fun p => (p.cell K5.lt).trans m3
    have s4 : ∀ p : Since w2.heap.size w2, p.val.cell? ⟨g5, 4, none⟩ = some (.int .i64 x.missed) := fun p => (p.cell K5.lt).trans m4
    clear hC9 L1 hW1 c1 k7 m0 m1 m2 m3 m4 K5 L2
    go_wp2_with fail
    go_loopw [4, 6] (fun o i wr => ∃ (k : Nat) (s : ByteArray), k ≤ x.t.length ∧ i = .int .i64 k ∧ o = .string s ∧ s.size ≤ 1000 * k ∧ (∃ q : Since w2.heap.size w2, wr = q.val) ∧ Hid (bl s = rowsB x (x.t.take k))) (fun _ i _ => x.t.length - (intOf i).toNat)
    case atStart => exact ⟨0, ⟨#[]⟩, Nat.zero_le _, rfl, rfl, Nat.zero_le _, ⟨Since.start _ _, rfl⟩, rfl⟩
    case round =>
      obtain ⟨k, s, hk, rfl, rfl, hz, ⟨q, rfl⟩, HR⟩ := hrel
      by_cases hlt : k < x.t.length
      · obtain ⟨bt, ot, hTA, hbt, htc⟩ := hW2.ts.el (by omega)
        obtain ⟨t0, t1⟩ := htc k hlt
        have hlt2 : (k : Int) < (x.t.length : Int) := by omega
        have htb := Tray.bounds (GG.out.tall k hlt)
        have hts := tray_size GG.out hlt
        have HTT : Hid (∀ W : World, OffR W W.heap.size x → Calls Tryz.prog 13 #[.agg #[.slice (some ⟨bt, ot, none⟩) x.t.length x.tc, .slice x.OA x.o.length x.oc, .int .i64 x.got, .int .i64 x.sold, .int .i64 x.missed], .int .i64 k] W fun e w' => e = .returned (.string (trayB x x.t[k])) ∧ Below W.heap.size W w') :=
          fun W hA => by rw [← hTA]; exact l32Text_any x k x.t[k].k W hA GG.out hlt rfl
        have HN := Lib.hid (rowsB_next (x := x) hlt)
        obtain ⟨tr, htr⟩ : ∃ tr, x.t[k] = tr := ⟨_, rfl⟩
        rw [htr] at t0 t1 htb hts HTT HN
        obtain ⟨tb, htb2⟩ : ∃ tb, trayB x tr = tb := ⟨_, rfl⟩
        rw [htb2] at hts HTT
        have HRB : Hid (rowB x tr = Lib.itoa tr.k ++ [58, 32] ++ bl tb ++ [10]) := by rw [Hid, ← htb2]; rfl
        obtain ⟨kv, hkv⟩ : ∃ s : ByteArray, s = ⟨(Lib.itoa tr.k).toArray⟩ := ⟨_, rfl⟩
        have hks : kv.size ≤ 100 := by rw [hkv]; exact itoa_len (by omega) (by omega)
        have NUM : Hid (∀ W : World, Calls Tryz.prog 12 #[.int .i64 tr.k] W fun e w' => e = .returned (.string kv) ∧ Below W.heap.size W w') := by
          intro W; rw [hkv]; exact l1Num_any _ _ (by omega) (by omega)
        have HKV : Hid (bl kv = Lib.itoa tr.k) := by rw [hkv, Hid, bl_mk]
        have HW2 := Lib.hid hW2
        clear htr htb2 hkv htb htc hW2
        rw [hTA] at s0
        clear hTA
        go_upto_region 7 with fail
        refine wp_region_since _ (by kernel_rfl) (by kernel_rfl) ?_
        repeat (any_goals (first | go_big_quiet_step ((first | (go_at_call 12; with_reducible refine calls_since (Nat.le_refl _) (NUM.out _)) | (go_at_call 13; with_reducible refine calls_since (Nat.le_refl _) (HTT.out _ (HW2.out.up (Since.below _) (Nat.le_refl _)))))) | (refine wpQuiet_step (fun K hK => ?_); go_simp; split <;> (refine hK _ ?_; clear hK K))))
        all_goals (refine wpQuiet_nil ?_; rintro _ ⟨q1, rfl⟩)
        all_goals go_wp2
        go_roundw
        case rel =>
          refine ⟨k + 1, s ++ kv ++ ⟨#[58, 32]⟩ ++ tb ++ ⟨#[10]⟩, by omega, by go_num, rfl, ?_, ⟨q1, rfl⟩, ?_⟩
          · simp only [ByteArray.size_append]
            have e1 : (⟨#[58, 32]⟩ : ByteArray).size = 2 := rfl
            have e2 : (⟨#[10]⟩ : ByteArray).size = 1 := rfl
            omega
          · rw [Hid, HN.out, HRB.out, ← HR.out, ← HKV.out]
            simp only [bl_app, List.append_assoc]
            rfl
        case measure => simp [intOf]; omega
      · have hlt2 : ¬ (k : Int) < (x.t.length : Int) := by omega
        obtain ⟨⟨g1, g2⟩, ⟨s1', s2'⟩, ⟨m1, m2⟩, n1, n2⟩ := HN4.out
        have HRA : Hid (bl s = rowsB x x.t) := by
          have h1 := HR.out; rw [List.take_of_length_le (by omega)] at h1; exact h1
        have hz8 : s.size ≤ 8000 := by omega
        obtain ⟨vg, hvg⟩ : ∃ s : ByteArray, s = ⟨(Lib.itoa x.got).toArray⟩ := ⟨_, rfl⟩
        have zvg : vg.size ≤ 100 := by rw [hvg]; exact itoa_len (by omega) (by omega)
        have NG : Hid (∀ W : World, Calls Tryz.prog 12 #[.int .i64 x.got] W fun e w' => e = .returned (.string vg) ∧ Below W.heap.size W w') := by
          intro W; rw [hvg]; exact l1Num_any _ _ (by omega) (by omega)
        have BG : Hid (bl vg = Lib.itoa x.got) := by rw [hvg, Hid, bl_mk]
        clear hvg
        obtain ⟨vs, hvs⟩ : ∃ s : ByteArray, s = ⟨(Lib.itoa x.sold).toArray⟩ := ⟨_, rfl⟩
        have zvs : vs.size ≤ 100 := by rw [hvs]; exact itoa_len (by omega) (by omega)
        have NS : Hid (∀ W : World, Calls Tryz.prog 12 #[.int .i64 x.sold] W fun e w' => e = .returned (.string vs) ∧ Below W.heap.size W w') := by
          intro W; rw [hvs]; exact l1Num_any _ _ (by omega) (by omega)
        have BS : Hid (bl vs = Lib.itoa x.sold) := by rw [hvs, Hid, bl_mk]
        clear hvs
        obtain ⟨vm, hvm⟩ : ∃ s : ByteArray, s = ⟨(Lib.itoa x.missed).toArray⟩ := ⟨_, rfl⟩
        have zvm : vm.size ≤ 100 := by rw [hvm]; exact itoa_len (by omega) (by omega)
        have NM : Hid (∀ W : World, Calls Tryz.prog 12 #[.int .i64 x.missed] W fun e w' => e = .returned (.string vm) ∧ Below W.heap.size W w') := by
          intro W; rw [hvm]; exact l1Num_any _ _ (by omega) (by omega)
        have BM : Hid (bl vm = Lib.itoa x.missed) := by rw [hvm, Hid, bl_mk]
        clear hvm
        obtain ⟨vn, hvn⟩ : ∃ s : ByteArray, s = ⟨(Lib.itoa l.n).toArray⟩ := ⟨_, rfl⟩
        have zvn : vn.size ≤ 100 := by rw [hvn]; exact itoa_len (by omega) (by omega)
        have NN : Hid (∀ W : World, Calls Tryz.prog 12 #[.int .i64 l.n] W fun e w' => e = .returned (.string vn) ∧ Below W.heap.size W w') := by
          intro W; rw [hvn]; exact l1Num_any _ _ (by omega) (by omega)
        have BN : Hid (bl vn = Lib.itoa l.n) := by rw [hvn, Hid, bl_mk]
        clear hvn
        clear HR hz hlt hW2 GG
        go_wp2_with fail
        refine wp_region_since _ (by kernel_rfl) (by kernel_rfl) ?_
        repeat (any_goals (first | go_big_quiet_step ((first | (go_at_call 12; with_reducible refine calls_since (Nat.le_refl _) (NG.out _)) | (go_at_call 12; with_reducible refine calls_since (Nat.le_refl _) (NS.out _)) | (go_at_call 12; with_reducible refine calls_since (Nat.le_refl _) (NM.out _)) | (go_at_call 12; with_reducible refine calls_since (Nat.le_refl _) (NN.out _)))) | (refine wpQuiet_step (fun K hK => ?_); go_simp; split <;> (refine hK _ ?_; clear hK K))))
        all_goals (refine wpQuiet_nil ?_; rintro _ ⟨q1, rfl⟩)
        all_goals go_wp2
        go_ret2
        have HE : Hid (s ++ ⟨#[103, 111, 116, 32]⟩ ++ vg ++ ⟨#[59, 32, 115, 111, 108, 100, 32]⟩ ++ vs ++ ⟨#[59, 32, 109, 105, 115, 115, 101, 100, 32]⟩ ++ vm ++ ⟨#[59, 32, 114, 101, 99, 111, 114, 100, 115, 32]⟩ ++ vn ++ ⟨#[10]⟩ = conV x l) := by
          rw [Hid, HV.out]
          apply bl_inj
          rw [bl_mk (rowsB x x.t ++ endB x l)]
          unfold endB
          rw [← HRA.out, ← BG.out, ← BS.out, ← BM.out, ← BN.out]
          simp only [bl_app, List.append_assoc]
          rfl
        rw [← HE.out, HOK.out]
        exact ⟨rfl, by rw [hgb]; exact c2.trans (q1.below.mono (by have := c2.size; omega))⟩
end Go.Proofs.YtojceibamgodbaaGreatDoor
