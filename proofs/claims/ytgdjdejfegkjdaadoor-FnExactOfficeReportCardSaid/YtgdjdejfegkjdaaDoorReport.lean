/- OfficeReport: both sides. -/
import Derived.Test.YtgdjdejfegkjdaaDoorSumsR
import Derived.Test.YtgdjdejfegkjdaaDoorOLineS
import Derived.Test.YtgdjdejfegkjdaaDoorOLineI
namespace Go.Proofs.YtgdjdejfegkjdaaDoor
open Go.RowKit

def repT : List Row → List UInt8
  | [] => []
  | r :: l => lineT r ++ (10 :: repT l)
def soldF : Int → List Row → Int
  | s, [] => s
  | s, r :: l => soldF (s + r.s) l
theorem sums_sold : ∀ (l : List Row) (b s c m : Int), (sumsFrom b s c m l)[1]? = some (soldF s l)
  | [], _, _, _, _ => rfl
  | r :: l, b, s, c, m => by unfold sumsFrom soldF; exact sums_sold l _ _ _ _
theorem soldF_drop {l : List Row} {k : Nat} (h : k < l.length) (s : Int) : soldF s (l.drop k) = soldF (s + l[k].s) (l.drop (k + 1)) := by rw [List.drop_eq_getElem_cons h]; rfl
theorem repT_drop {l : List Row} {k : Nat} (h : k < l.length) : repT (l.drop k) = lineT l[k] ++ (10 :: repT (l.drop (k + 1))) := by rw [List.drop_eq_getElem_cons h]; rfl
def reportT (l : List Row) : List UInt8 := repT l ++ ([115, 111, 108, 100, 32] ++ Lib.itoa (soldF 0 l))
def reportV (l : List Row) : ByteArray := if goodRows l then ⟨(reportT l).toArray⟩ else ⟨#[]⟩
theorem lineO_bl (r : Row) : bl (lineO r) = lineT r := by unfold lineO; rw [bl_mk]
theorem lineO_size {r : Row} (h : r.ok = true) : (lineO r).size ≤ 2000 := by
  have e : ∀ l : List UInt8, (⟨l.toArray⟩ : ByteArray).size = l.length := fun l => rfl
  obtain ⟨a1, a2, a3, a4, a5, a6, a7, a8, a9, a10⟩ := Row.ok_bounds h
  have h1 := itoa_len (n := r.m) (by omega) (by omega)
  have h2 := itoa_len (n := r.b) (by omega) (by omega)
  have h3 := itoa_len (n := r.s) (by omega) (by omega)
  have h4 := itoa_len (n := r.l) (by omega) (by omega)
  have h5 := hund_len (n := r.c.natAbs) (by omega)
  rw [e] at h1 h2 h3 h4 h5
  unfold lineO
  rw [e]
  unfold lineT
  simp only [List.length_append, List.length_cons, List.length_nil]
  split <;> split <;> simp only [List.length_append, List.length_cons, List.length_nil] <;> omega
theorem soldF_bound : ∀ (l : List Row) (s : Int), (∀ i (hi : i < l.length), l[i].ok = true) → 0 ≤ s → 0 ≤ soldF s l ∧ soldF s l ≤ s + 9999 * l.length
  | [], s, _, h => by simp [soldF]; omega
  | r :: l, s, hok, h => by
    have h0 := hok 0 (by simp)
    obtain ⟨_, _, ⟨b1, b2⟩, _⟩ := Row.bounds h0
    simp only [List.getElem_cons_zero] at b1 b2
    have h1 := soldF_bound l (s + r.s) (fun i hi => by have := hok (i + 1) (by simpa using hi); simpa using this) (by omega)
    unfold soldF
    simp only [List.length_cons]
    omega

set_option maxRecDepth 100000 in
set_option maxHeartbeats 2000000 in
theorem specReport_any (A : Option Addr) (c : Nat) (l : List Row) (w : World) (h : RowsR w w.heap.size A l) :
    Calls Tryd.prog 10 #[.slice A l.length c] w fun e w' => e = .returned (.tuple #[.string (reportV l), .bool (goodRows l)]) ∧ Below w.heap.size w w' := by
  have hl := h.big
  have hS := specSums_any A c l w h
  cases hg : goodRows l
  · have HV : Hid (reportV l = ⟨#[]⟩) := by unfold reportV Hid; rw [hg]; rfl
    rw [hg] at hS
    have HG := Lib.hid hg; clear hg
    have HS := Lib.hid hS; clear hS
    go_enter Tryd.func10, Tryd.ntmps10
    go_wp2_with fail
    refine (HS.out).mono ?_
    rintro e w1 ⟨A1, c1, rfl, hO1, hb1⟩
    clear hO1
    go_wp2_with fail
    go_ret2
    exact ⟨by rw [HV.out]; rfl, hb1⟩
  · have h12 := good_len hg
    have hall : ∀ i (hi : i < l.length), l[i].ok = true := fun i hi => good_at hg hi
    have HA := Lib.hid hall
    have hsb := soldF_bound l 0 hall (by omega)
    have hsr : sumsR l = sumsFrom 0 0 0 0 l := by unfold sumsR; rw [hg]; rfl
    have hs1 : (sumsR l)[1]? = some (soldF 0 l) := by rw [hsr]; exact sums_sold l 0 0 0 0
    have hs4 : (sumsR l).length = 4 := by rw [hsr]; exact sumsFrom_len l 0 0 0 0
    have HV : Hid (reportV l = ⟨(reportT l).toArray⟩) := by unfold reportV Hid; rw [hg]; rfl
    rw [hg] at hS
    clear hall hsr
    have HG := Lib.hid hg; clear hg
    have hrd := Lib.hid h.row
    have HS2 : Hid (Calls Tryd.prog 21 #[.slice A l.length c] w fun e w' => ∃ b off c', e = .returned (.tuple #[.slice (some ⟨b, off, none⟩) 4 c', .bool true]) ∧ b < w'.heap.size ∧ w'.cell? ⟨b, off + 1, none⟩ = some (.int .i64 (soldF 0 l)) ∧ Below w.heap.size w w') := by
      refine hS.mono ?_
      rintro e w1 ⟨A1, c1, rfl, hO1, hb1⟩
      obtain ⟨b, off, hA, hb, hc⟩ := SlcR.at_ hO1.reads (by omega)
      refine ⟨b, off, c1, by rw [hs4, hA], hb, hc 1 _ ?_, hb1⟩
      rw [List.getElem?_map, hs1]; rfl
    clear hS hs1 hs4
    obtain ⟨sd, hsd⟩ : ∃ sd, sd = soldF 0 l := ⟨_, rfl⟩
    rw [← hsd] at HS2 hsb
    obtain ⟨ts, hts⟩ : ∃ t : ByteArray, t = ⟨(Lib.itoa sd).toArray⟩ := ⟨_, rfl⟩
    have hz : ts.size ≤ 100 := by rw [hts]; exact itoa_len (by omega) (by omega)
    have HN : Hid (∀ W, Calls Tryd.prog 22 #[.int .i64 sd] W fun e w' => e = .returned (.string ts) ∧ Below W.heap.size W w') := fun W => by rw [hts]; exact l1Num_any sd W (by omega) (by omega)
    have HF : Hid (bl ⟨#[]⟩ ++ repT (l.drop 0) = repT l) := rfl
    have HT : Hid (reportT l = repT l ++ ([115, 111, 108, 100, 32] ++ bl ts)) := by rw [Hid, hts, bl_mk, hsd]; rfl
    clear hts hsd
    have z1 : (⟨#[10]⟩ : ByteArray).size = 1 := rfl
    have z2 : (⟨#[115, 111, 108, 100, 32]⟩ : ByteArray).size = 5 := rfl
    go_enter Tryd.func10, Tryd.ntmps10
    go_wp2_with fail
    refine (HS2.out).mono ?_
    rintro e w1 ⟨bs, offs, cs, rfl, hbs, hcs, hb1⟩
    have hr1 : RowsR w1 w1.heap.size A l := h.then hb1
    clear hrd
    have hrd := hr1.row
    go_wp2_with fail
    go_loopw [6, 7] (fun o i wr => ∃ (k : Nat) (x : ByteArray), k ≤ l.length ∧ i = .int .i64 k ∧ o = .string x ∧ x.size ≤ 3000 * k ∧ Hid (bl x ++ repT (l.drop k) = repT l) ∧ (∃ q : Since w1.heap.size w1, wr = q.val)) (fun _ i _ => l.length - (intOf i).toNat)
    case atStart => exact ⟨0, ⟨#[]⟩, Nat.zero_le _, rfl, rfl, by decide, HF, ⟨Since.start _ _, rfl⟩⟩
    case round =>
      obtain ⟨k, x, hk, rfl, rfl, hx, HR, ⟨q, rfl⟩⟩ := hrel
      by_cases hlt : k < l.length
      · obtain ⟨b, off, rfl, hb, hcell⟩ := hrd (by omega)
        obtain ⟨c0, c1, c2, c3, c4⟩ := hcell k hlt
        have hok := HA.out k hlt
        have HD := Lib.hid (repT_drop hlt)
        obtain ⟨y, hy⟩ : ∃ y, y = l[k] := ⟨_, rfl⟩
        rw [← hy] at c0 c1 c2 c3 c4 hok HD
        have HL := Lib.hid (fun W => l31Line_any y W hok)
        have hls := lineO_size hok
        have HLB := Lib.hid (lineO_bl y)
        clear hy hcell hrd hok
        generalize lineO y = t at HL hls HLB
        go_wp2_with fail
        refine (HL.out _).mono ?_
        rintro e w2 ⟨rfl, hb2⟩
        go_wp2_with fail
        go_roundw
        case rel => exact ⟨k + 1, x ++ t ++ ⟨#[10]⟩, by omega, by go_num, rfl, by rw [size_app, size_app, z1]; omega, by
          have h9 := HR.out
          rw [HD.out, ← HLB.out] at h9
          rw [Hid, bl_app, bl_app, ← h9]
          simp [bl], ⟨q.go (Nat.le_refl _) hb2, rfl⟩⟩
        case measure => simp [intOf]; omega
      · have HX : Hid (bl x = repT l) := by
          have h9 := HR.out
          rw [List.drop_eq_nil_of_le (by omega), show repT [] = [] from rfl, List.append_nil] at h9; exact h9
        have hcs' : q.val.cell? ⟨bs, offs + 1, none⟩ = some (.int .i64 sd) := (q.cell hbs).trans hcs
        clear hrd
        go_wp2_with fail
        refine (HN.out _).mono ?_
        rintro e w2 ⟨rfl, hb2⟩
        go_wp2_with fail
        have key : (x ++ ⟨#[115, 111, 108, 100, 32]⟩ ++ ts : ByteArray) = reportV l := by
          rw [HV.out]; refine bl_ext ?_
          rw [HT.out, bl_app, bl_app, HX.out, List.append_assoc]; rfl
        go_ret2
        exact ⟨by rw [← key]; rfl, bthen hb1 (q.below.trans (hb2.mono q.size))⟩
end Go.Proofs.YtgdjdejfegkjdaaDoor
