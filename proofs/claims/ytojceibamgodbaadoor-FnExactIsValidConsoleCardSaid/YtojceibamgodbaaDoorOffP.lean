/- Offices: what they hold, when they are valid, sums (no program's function in sight). -/
import Derived.Test.YtojceibamgodbaaDoorTray
import Derived.Test.YtojceibamgodbaaDoorOuting
namespace Go.Proofs.YtojceibamgodbaaDoor
open Go.RowKit

structure Off where
  TA : Option Addr
  t : List Tray
  tc : Nat
  OA : Option Addr
  o : List Outing
  oc : Nat
  got : Int
  sold : Int
  missed : Int
def Off.enc (x : Off) : List Value := [.slice x.TA x.t.length x.tc, .slice x.OA x.o.length x.oc, .int .i64 x.got, .int .i64 x.sold, .int .i64 x.missed]
abbrev Off.val (x : Off) : Value := .agg #[.slice x.TA x.t.length x.tc, .slice x.OA x.o.length x.oc, .int .i64 x.got, .int .i64 x.sold, .int .i64 x.missed]
theorem Off.enc_len (x : Off) : x.enc.length = 5 := rfl
/-- Its slices read. -/
structure OffR (w : World) (B : Nat) (x : Off) : Prop where
  ts : TraysR w B x.TA x.t
  os : OutingsR w B x.OA x.o
section
variable {w w' : World} {B : Nat} {x : Off}
theorem OffR.below (h : OffR w B x) (hb : Below B w w') : OffR w' B x := ⟨SlcR.below h.ts hb, SlcR.below h.os hb⟩
theorem OffR.mono {B' : Nat} (h : OffR w B x) (hB : B ≤ B') : OffR w B' x := ⟨SlcR.mono h.ts hB, SlcR.mono h.os hB⟩
theorem OffR.up (h : OffR w B x) (hb : Below B w w') (hB : B ≤ w.heap.size) : OffR w' w'.heap.size x := ⟨SlcR.up h.ts hb hB, SlcR.up h.os hb hB⟩
theorem OffR.then (h : OffR w w.heap.size x) (hb : Below w.heap.size w w') : OffR w' w'.heap.size x := h.up hb (Nat.le_refl _)
end

def Tray.ok (r : Tray) : Bool := inR r.k 1 99 && inR r.c 0 9999
theorem Tray.bounds {r : Tray} (h : r.ok = true) : (1 ≤ r.k ∧ r.k ≤ 99) ∧ 0 ≤ r.c ∧ r.c ≤ 9999 := by
  unfold Tray.ok at h; rw [Bool.and_eq_true, inR_iff, inR_iff] at h; exact h
/-- Trays from place n on, behind one of the kind p. -/
def traysFrom : Nat → Int → List Tray → Bool
  | _, _, [] => true
  | n, p, r :: l => r.ok && (decide (n = 0) || decide (p < r.k)) && traysFrom (n + 1) r.k l
def traysOk (l : List Tray) : Bool := traysFrom 0 0 l
theorem traysFrom_all : ∀ (l : List Tray) (n : Nat) (p : Int), traysFrom n p l = true → ∀ i (h : i < l.length), l[i].ok = true
  | r :: l, n, p, hg, i, hi => by
    simp only [traysFrom, Bool.and_eq_true] at hg
    cases i with
    | zero => exact hg.1.1
    | succ i => exact traysFrom_all l (n + 1) r.k hg.2 i (by simpa using hi)

/-- Whether there is a tray of a kind. -/
def hasTray (ts : List Tray) (k : Int) : Bool := ts.any fun t => decide (t.k = k)
def trayIx (ts : List Tray) (k : Int) : Int := idxFrom (fun t : Tray => decide (t.k = k)) 0 ts
theorem trayIx_has (ts : List Tray) (k : Int) : decide (0 ≤ trayIx ts k) = hasTray ts k := idxFrom_any _ ts 0
def Outing.ok (ts : List Tray) (r : Outing) : Bool := hasTray ts r.k && inR r.p 1 999 && inR r.c 1 9999
theorem Outing.bounds {ts : List Tray} {r : Outing} (h : r.ok ts = true) : hasTray ts r.k = true ∧ (1 ≤ r.p ∧ r.p ≤ 999) ∧ 1 ≤ r.c ∧ r.c ≤ 9999 := by
  unfold Outing.ok at h; rw [Bool.and_eq_true, Bool.and_eq_true, inR_iff, inR_iff] at h; exact ⟨h.1.1, h.1.2, h.2⟩
/-- One outing comes before another one. -/
def before (a b : Outing) : Bool := decide (a.k < b.k) || decide (a.k = b.k) && decide (a.p < b.p)
/-- Outings, behind the one p if there is one. -/
def outsFrom (ts : List Tray) : Option Outing → List Outing → Bool
  | _, [] => true
  | p, r :: l => r.ok ts && (match p with | none => true | some q => before q r) && outsFrom ts (some r) l
def outsOk (ts : List Tray) (l : List Outing) : Bool := outsFrom ts none l
theorem outsFrom_all (ts : List Tray) : ∀ (l : List Outing) (p : Option Outing), outsFrom ts p l = true → ∀ i (h : i < l.length), l[i].ok ts = true
  | r :: l, p, hg, i, hi => by
    simp only [outsFrom, Bool.and_eq_true] at hg
    cases i with
    | zero => exact hg.1.1
    | succ i => exact outsFrom_all ts l (some r) hg.2 i (by simpa using hi)
theorem hasTray_bounds {ts : List Tray} {k : Int} (hall : ∀ i (h : i < ts.length), ts[i].ok = true) (h : hasTray ts k = true) : 1 ≤ k ∧ k ≤ 99 := by
  unfold hasTray at h
  rw [List.any_eq_true] at h
  obtain ⟨t, ht, hk⟩ := h
  obtain ⟨i, hi, rfl⟩ := List.getElem_of_mem ht
  have := (Tray.bounds (hall i hi)).1
  have e := of_decide_eq_true hk
  omega
/-- The reference's key puts valid outings in the same order. -/
theorem before_key {a b : Outing} (ha : 1 ≤ a.p ∧ a.p ≤ 999) (hb : 1 ≤ b.p ∧ b.p ≤ 999) : before a b = decide (1000 * a.k + a.p < 1000 * b.k + b.p) := by
  unfold before
  by_cases h1 : a.k < b.k
  · rw [decide_eq_true h1, Bool.true_or]; exact (decide_eq_true (by omega)).symm
  · rw [decide_eq_false h1, Bool.false_or]
    by_cases h2 : a.k = b.k
    · rw [decide_eq_true h2, Bool.true_and]
      by_cases h3 : a.p < b.p
      · rw [decide_eq_true h3]; exact (decide_eq_true (by omega)).symm
      · rw [decide_eq_false h3]; exact (decide_eq_false (by omega)).symm
    · rw [decide_eq_false h2, Bool.false_and]; exact (decide_eq_false (by omega)).symm

def inFrom : Int → List Tray → Int
  | s, [] => s
  | s, r :: l => inFrom (s + r.c) l
def outFrom (f : Outing → Bool) : Int → List Outing → Int
  | s, [] => s
  | s, r :: l => outFrom f (if f r then s + r.c else s) l
def inSum (l : List Tray) : Int := inFrom 0 l
def outSum (f : Outing → Bool) (l : List Outing) : Int := outFrom f 0 l
abbrev every : Outing → Bool := fun _ => true
theorem in_step {l : List Tray} {k : Nat} (h : k < l.length) (s : Int) : inFrom s (l.drop k) = inFrom (s + l[k].c) (l.drop (k + 1)) := by
  rw [List.drop_eq_getElem_cons h]; rfl
theorem out_step {f : Outing → Bool} {l : List Outing} {k : Nat} (h : k < l.length) (s : Int) : outFrom f s (l.drop k) = outFrom f (if f l[k] then s + l[k].c else s) (l.drop (k + 1)) := by
  rw [List.drop_eq_getElem_cons h]; rfl
theorem inFrom_bd : ∀ (l : List Tray) (s : Int), (∀ i (h : i < l.length), l[i].ok = true) → s ≤ inFrom s l ∧ inFrom s l ≤ s + 9999 * l.length
  | [], s, _ => by simp [inFrom]
  | r :: l, s, h => by
    have hr := (Tray.bounds (h 0 (by simp))).2
    simp only [List.getElem_cons_zero] at hr
    have := inFrom_bd l (s + r.c) (fun i hi => by have := h (i + 1) (by simpa using hi); simpa using this)
    simp only [inFrom, List.length_cons]
    omega
theorem outFrom_bd (f : Outing → Bool) (ts : List Tray) : ∀ (l : List Outing) (s : Int), (∀ i (h : i < l.length), l[i].ok ts = true) → s ≤ outFrom f s l ∧ outFrom f s l ≤ s + 9999 * l.length
  | [], s, _ => by simp [outFrom]
  | r :: l, s, h => by
    have hr := (Outing.bounds (h 0 (by simp))).2.2
    simp only [List.getElem_cons_zero] at hr
    have := outFrom_bd f ts l (if f r then s + r.c else s) (fun i hi => by have := h (i + 1) (by simpa using hi); simpa using this)
    simp only [outFrom, List.length_cons]
    cases hf : f r <;> simp only [hf, if_true, if_false, Bool.false_eq_true] at this ⊢ <;> omega

def sizesOk (x : Off) : Bool := decide (x.t.length ≤ 8) && decide (x.o.length ≤ 8)
def numsOk (x : Off) : Bool := inR x.got 0 99999 && inR x.sold 0 99999 && inR x.missed 0 99999
def sumOk (x : Off) : Bool := decide (x.got = inSum x.t + outSum every x.o + x.sold + x.missed)
def goodOff (x : Off) : Bool := sizesOk x && numsOk x && traysOk x.t && outsOk x.t x.o && sumOk x
structure Good (x : Off) : Prop where
  tl : x.t.length ≤ 8
  ol : x.o.length ≤ 8
  g : 0 ≤ x.got ∧ x.got ≤ 99999
  s : 0 ≤ x.sold ∧ x.sold ≤ 99999
  m : 0 ≤ x.missed ∧ x.missed ≤ 99999
  ts : traysOk x.t = true
  os : outsOk x.t x.o = true
  sum : x.got = inSum x.t + outSum every x.o + x.sold + x.missed
theorem good_iff {x : Off} : goodOff x = true ↔ Good x := by
  unfold goodOff sizesOk numsOk sumOk
  simp only [Bool.and_eq_true, inR_iff, decide_eq_true_eq]
  constructor
  · rintro ⟨⟨⟨⟨⟨h1, h2⟩, ⟨h3, h4⟩, h5⟩, h6⟩, h7⟩, h8⟩
    exact ⟨h1, h2, h3, h4, h5, h6, h7, h8⟩
  · rintro ⟨h1, h2, h3, h4, h5, h6, h7, h8⟩
    exact ⟨⟨⟨⟨⟨h1, h2⟩, ⟨h3, h4⟩, h5⟩, h6⟩, h7⟩, h8⟩
theorem Good.tall {x : Off} (h : Good x) : ∀ i (hi : i < x.t.length), x.t[i].ok = true := traysFrom_all _ _ _ h.ts
theorem Good.oall {x : Off} (h : Good x) : ∀ i (hi : i < x.o.length), x.o[i].ok x.t = true := outsFrom_all _ _ _ h.os
end Go.Proofs.YtojceibamgodbaaDoor
