/- Lg06: the texts LogRecs LogLinesP LawLines LawCrash LawLog OpenCode, joined into one file. -/
import Derived.Test.YtojceibamgodbaaDoorLg01
import Derived.Test.YtojceibamgodbaaDoorLg04
import Derived.Test.YtojceibamgodbaaDoorLg05

set_option linter.unusedVariables false

/- LogRecords: both sides and the law. -/
namespace Go.Proofs.YtojceibamgodbaaDoor
open Go.RowKit

/-- The records of a log. -/
noncomputable def recsL (l : Lg) : List ((List UInt8 × List UInt8) × Nat) := if l.ok then openF 60 0 (bl l.D ++ bl l.P) else []
def GivesRecs (l : Lg) (w : World) (e : Ending) (w' : World) : Prop := ∃ A c m, e = .returned (.tuple #[.slice A (List.length m) c, .bool l.ok]) ∧ recsOf (recsL l) m ∧ w'.ownsRow w.heap.size 45 2 (.slice A m.length c) m.length (m.flatMap Rec.enc) ∧ Below w.heap.size w w'
theorem recs_same {l : List ((List UInt8 × List UInt8) × Nat)} {m m' : List Rec} (h : recsOf l m) (h' : recsOf l m') : m = m' := by
  unfold recsOf at h h'
  have e : m.map (fun r => (bl r.c, bl r.r)) = m'.map (fun r => (bl r.c, bl r.r)) := h.trans h'.symm
  clear h h'
  induction m generalizing m' with
  | nil => cases m' with
    | nil => rfl
    | cons y m' => simp at e
  | cons x m ih => cases m' with
    | nil => simp at e
    | cons y m' =>
      simp only [List.map_cons, List.cons.injEq, Prod.mk.injEq] at e
      obtain ⟨⟨e1, e2⟩, e3⟩ := e
      obtain ⟨xc, xr⟩ := x
      obtain ⟨yc, yr⟩ := y
      rw [show xc = yc from bl_ext e1, show xr = yr from bl_ext e2, ih e3]
theorem recsL_len (l : Lg) {m : List Rec} (h : recsOf (recsL l) m) : m.length ≤ 60 := by
  rw [recsOf_len h]; unfold recsL
  split
  · exact openF_length 60 0 _
  · simp

set_option maxRecDepth 100000 in
set_option maxHeartbeats 2000000 in
theorem specLogRecords_any (l : Lg) (w : World) (hs : l.D.size + l.P.size ≤ 2000000) :
    Calls Tryd.prog 26 #[l.val] w (GivesRecs l w) := by
  have b1 := (Below.refl w.heap.size w).alloc (Nat.le_refl _) (.cells #[.string l.D, .string l.P, .int .i64 l.n] 36)
  have L1 := Lies.new w 36 #[.string l.D, .string l.P, .int .i64 l.n]
  have hz : (l.D ++ l.P).size = l.D.size + l.P.size := size_app _ _
  have hbl : bl (l.D ++ l.P) = bl l.D ++ bl l.P := bl_app _ _
  go_enter Tryd.func26, Tryd.ntmps26
  go_wp2_with fail
  generalize w.alloc (.cells #[.string l.D, .string l.P, .int .i64 l.n] 36) = W at b1 L1 ⊢
  generalize hg : w.heap.size = g at L1 ⊢
  refine (l33Log_any l _ hs).mono ?_
  rintro e w2 ⟨rfl, hb2⟩
  have L2 := L1.below hb2 L1.lt
  have c0 := L2.cell 0
  have c1 := L2.cell 1
  have c2 := L2.cell 2
  simp only [List.getElem?_cons_zero, List.getElem?_cons_succ] at c0 c1 c2
  have hbb : Below w.heap.size w w2 := by rw [← hg] at *; exact bthen b1 hb2
  cases hok : l.ok
  · have HK := Lib.hid hok
    clear hok hbl L1 L2
    have hb3 := hbb.alloc hbb.size (.cells #[] 45)
    have hO : (w2.alloc (.cells #[] 45)).ownsRow w.heap.size 45 2 (.slice (some ⟨w2.heap.size, 0, none⟩) 0 0) 0 (([] : List Rec).flatMap Rec.enc) := owns_empty (Lies.new w2 45 #[]) hbb.size
    have HO := Lib.hid hO
    clear hO
    go_wp2_with fail
    go_ret2
    exact ⟨_, _, [], by rw [HK.out]; rfl, by unfold recsL; rw [HK.out]; rfl, HO.out, hb3⟩
  · have HK := Lib.hid hok
    have hsm : l.D.size + l.P.size ≤ 30000 := by
      have h9 := logOk_small (logOk_iff.1 hok).1
      rwa [bl_size, bl_size] at h9
    have HO : Hid (∀ W, Calls Tryd.prog 53 #[.string (l.D ++ l.P)] W (GivesRead (l.D ++ l.P) W)) := fun W => l33Open_any (l.D ++ l.P) W (by omega)
    have HB := Lib.hid hbl
    clear hok hbl L1 L2
    go_wp2_with fail
    refine (HO.out _).mono ?_
    rintro e w3 ⟨A, c, m, rfl, hm, hO, hb3⟩
    go_wp2_with fail
    go_ret2
    exact ⟨A, c, m, by rw [HK.out]; rfl, by unfold recsL; rw [HK.out, if_pos rfl, ← HB.out]; exact hm, ownsRow_lower hO (hbb.size), hbb.trans (hb3.mono hbb.size)⟩

set_option maxRecDepth 100000 in
set_option maxHeartbeats 2000000 in
theorem implLogRecords_any (l : Lg) (w : World) (hs : l.D.size + l.P.size ≤ 2000000) (ht : Tab w) :
    Calls Tryd.prog 20 #[l.val] w (GivesRecs l w) := by
  have b1 := (Below.refl w.heap.size w).alloc (Nat.le_refl _) (.cells #[.string l.D, .string l.P, .int .i64 l.n] 36)
  have L1 := Lies.new w 36 #[.string l.D, .string l.P, .int .i64 l.n]
  have ht1 := ht.then b1
  have hz : (l.D ++ l.P).size = l.D.size + l.P.size := size_app _ _
  have hbl : bl (l.D ++ l.P) = bl l.D ++ bl l.P := bl_app _ _
  go_enter Tryd.func20, Tryd.ntmps20
  go_wp2_with fail
  generalize w.alloc (.cells #[.string l.D, .string l.P, .int .i64 l.n] 36) = W at ht1 b1 L1 ⊢
  generalize hg : w.heap.size = g at L1 ⊢
  refine (isLog_any l _ hs ht1).mono ?_
  rintro e w2 ⟨rfl, hb2⟩
  have L2 := L1.below hb2 L1.lt
  have c0 := L2.cell 0
  have c1 := L2.cell 1
  have c2 := L2.cell 2
  simp only [List.getElem?_cons_zero, List.getElem?_cons_succ] at c0 c1 c2
  have hbb : Below w.heap.size w w2 := by rw [← hg] at *; exact bthen b1 hb2
  cases hok : l.ok
  · have HK := Lib.hid hok
    clear hok hbl L1 L2
    go_wp2_with fail
    go_ret2
    exact ⟨none, 0, [], by rw [HK.out]; rfl, by unfold recsL; rw [HK.out]; rfl, World.ownsRow_nil _ _ _ _, hbb⟩
  · have HK := Lib.hid hok
    have hsm : l.D.size + l.P.size ≤ 30000 := by
      have h9 := logOk_small (logOk_iff.1 hok).1
      rwa [bl_size, bl_size] at h9
    have HO : Hid (∀ W, Tab W → Calls Tryd.prog 50 #[.string (l.D ++ l.P)] W (GivesOpen (l.D ++ l.P) W)) := fun W hW => readRecords_any (l.D ++ l.P) W (by omega) hW
    have HB := Lib.hid hbl
    clear hok hbl L1 L2
    go_wp2_with fail
    refine (HO.out _ (ht.then hbb)).mono ?_
    rintro e w3 ⟨A, c, A8, c8, m, rfl, hm, hO, _, hb3⟩
    go_wp2_with fail
    go_ret2
    exact ⟨A, c, m, by rw [HK.out]; rfl, by unfold recsL; rw [HK.out, if_pos rfl, ← HB.out]; exact hm, ownsRow_lower hO (hbb.size), hbb.trans (hb3.mono hbb.size)⟩

end Go.Proofs.YtojceibamgodbaaDoor

/- FnLogLines, FnLog, FnCrashRecovery: the plain laws. -/
namespace Go.Proofs.YtojceibamgodbaaDoor
open Go.RowKit

theorem app_empty (s : ByteArray) : s ++ (⟨#[]⟩ : ByteArray) = s := bl_inj (by rw [bl_app, show bl (⟨#[]⟩ : ByteArray) = [] from rfl, List.append_nil])
theorem rec_yes {s : ByteArray} (h : recOkS s = true) : recLg s = ⟨s.extract 0 (lens (openF 60 0 (bl s))), ⟨#[]⟩, ((openF 60 0 (bl s)).length : Nat)⟩ ∧ recLen s = lens (openF 60 0 (bl s)) := by
  unfold recLg recLen; rw [h]; exact ⟨rfl, rfl⟩
theorem bl_recD {s : ByteArray} (h : recOkS s = true) : bl (recLg s).D = (bl s).take (lens (openF 60 0 (bl s))) := by
  rw [(rec_yes h).1]; simp only; rw [bl_extract, List.drop_zero]
/-- A recovered log is valid, and syncing leaves it. -/
theorem rec_ok {s : ByteArray} (h : recOkS s = true) : (recLg s).ok = true := by
  unfold Lg.ok
  rw [bl_recD h, (rec_yes h).1]
  exact logOk_recovered (bl s)
theorem rec_sync {s : ByteArray} (h : recOkS s = true) : syncLg (recLg s) = recLg s := by
  have h1 := rec_ok h
  unfold syncLg
  rw [h1, if_pos rfl, (rec_yes h).1]
  simp only [app_empty]
theorem recLg_small (s : ByteArray) : (recLg s).D.size + (recLg s).P.size ≤ s.size ∧ recLen s ≤ s.size := by
  cases h : recOkS s with
  | false =>
    have e1 : recLg s = ⟨⟨#[]⟩, ⟨#[]⟩, 0⟩ := by unfold recLg; rw [h]; rfl
    have e2 : recLen s = 0 := by unfold recLen; rw [h]; rfl
    rw [e1, e2]
    exact ⟨Nat.zero_le _, Nat.zero_le _⟩
  | true =>
    have hr := openF_room 60 0 (bl s)
    rw [bl_size] at hr
    rw [(rec_yes h).1, (rec_yes h).2]
    refine ⟨?_, hr⟩
    have h0 : (⟨#[]⟩ : ByteArray).size = 0 := rfl
    simp only [h0, ByteArray.size_extract]; omega
theorem recOkS_iff {s : ByteArray} : recOkS s = true ↔ s.size ≤ 30000 := by unfold recOkS; exact decide_eq_true_iff
theorem mk_size (l : List UInt8) : (⟨l.toArray⟩ : ByteArray).size = l.length := by simp [ByteArray.size]
/-- An encoded record is accepted only at its own number. -/
theorem enc_law {k : Int} {e : Rec} (h : encOk k e = true) : (encT k e).size ≤ 500 ∧ recOkS (encT k e) = true ∧ (decide ((0 : Int) < (recLen (encT k e) : Nat)) = decide (k = 0)) ∧ (k = 0 → (recLg (encT k e)).n = 1) := by
  have h' := h
  unfold encOk at h'
  rw [Bool.and_eq_true, inR_iff] at h'
  obtain ⟨⟨h0, h1⟩, h2⟩ := h'
  have hr : recOk (bl e.c) (bl e.r) = true := h2
  have et : encT k e = ⟨(lineL k.toNat (bl e.c) (bl e.r)).toArray⟩ := by unfold encT; rw [if_pos h]
  have hl := line_len (k := k.toNat) hr (by omega)
  have hp : 0 < (lineL k.toNat (bl e.c) (bl e.r)).length := by unfold lineL; simp
  have hz : (encT k e).size ≤ 500 := by rw [et, mk_size]; omega
  have hk := recOkS_iff.2 (show (encT k e).size ≤ 30000 by omega)
  have eb : bl (encT k e) = lineL k.toNat (bl e.c) (bl e.r) := by rw [et, bl_mk]
  rw [(rec_yes hk).1, (rec_yes hk).2, eb]
  refine ⟨hz, hk, ?_, fun hk0 => ?_⟩
  · by_cases hk0 : k = 0
    · rw [hk0, show (0 : Int).toNat = 0 from rfl, openF_line (n := 59) hr]
      rw [hk0] at hp
      have : lens [((bl e.c, bl e.r), (lineL 0 (bl e.c) (bl e.r)).length)] = (lineL 0 (bl e.c) (bl e.r)).length := by simp [lens]
      rw [this, decide_eq_true rfl, decide_eq_true_iff]
      have hp' : 0 < (lineL 0 (bl e.c) (bl e.r)).length := hp
      omega
    · rw [openF_line_not hr (by omega), decide_eq_false hk0]
      rfl
  · rw [hk0, show (0 : Int).toNat = 0 from rfl, openF_line (n := 59) hr]; rfl
theorem enc_none {k : Int} {e : Rec} (h : encOk k e = false) : encT k e = ⟨#[]⟩ := by unfold encT; rw [h]; rfl
/-- An appended record follows the others. -/
theorem app_law {l : Lg} {e : Rec} (h : appCode l e = 0) : (appLg l e).ok = true ∧ (∃ n, recsL (appLg l e) = recsL l ++ [((bl e.c, bl e.r), n)]) ∧ (appLg l e).n = ((recsL (appLg l e)).length : Nat) ∧
    recOkS ((appLg l e).D ++ (appLg l e).P) = true ∧ recLen ((appLg l e).D ++ (appLg l e).P) = ((appLg l e).D ++ (appLg l e).P).size ∧ syncLg (appLg l e) = recLg ((appLg l e).D ++ (appLg l e).P) := by
  cases hok : (l.ok && e.ok) with
  | false => rw [(appLg_no hok).2] at h; cases h
  | true =>
    by_cases hn : l.n = 60
    · rw [(appLg_full hok hn).2] at h; cases h
    · obtain ⟨e1, -⟩ := appLg_yes hok hn
      rw [Bool.and_eq_true] at hok
      obtain ⟨hl, hr⟩ := hok
      have hr : recOk (bl e.c) (bl e.r) = true := hr
      obtain ⟨q1, q2, q3⟩ := logOk_iff.1 hl
      have hle := openF_length 60 0 (bl l.D ++ bl l.P)
      have hlen : (openF 60 0 (bl l.D ++ bl l.P)).length < 60 := by omega
      have hnn : l.n.toNat = (openF 60 0 (bl l.D ++ bl l.P)).length := by omega
      have ha := openF_app hr 60 0 (bl l.D ++ bl l.P) (by rw [q1, List.length_append]) hlen
      rw [Nat.zero_add] at ha
      obtain ⟨lb, hlb⟩ : ∃ lb : ByteArray, lb = ⟨(lineL l.n.toNat (bl e.c) (bl e.r)).toArray⟩ := ⟨_, rfl⟩
      rw [← hlb] at e1
      rw [e1]
      have hbl : bl lb = lineL (openF 60 0 (bl l.D ++ bl l.P)).length (bl e.c) (bl e.r) := by rw [hlb, bl_mk (lineL l.n.toNat (bl e.c) (bl e.r)), hnn]
      clear hlb
      have eP : bl (l.P ++ lb) = bl l.P ++ lineL (openF 60 0 (bl l.D ++ bl l.P)).length (bl e.c) (bl e.r) := by rw [bl_app l.P lb, hbl]
      generalize hln : lineL (openF 60 0 (bl l.D ++ bl l.P)).length (bl e.c) (bl e.r) = ln at ha eP hbl
      have hap : openF 60 0 (bl l.D ++ bl (l.P ++ lb)) = openF 60 0 (bl l.D ++ bl l.P) ++ [((bl e.c, bl e.r), ln.length)] := by
        rw [eP, ← List.append_assoc]; exact ha
      have hlens : lens (openF 60 0 (bl l.D ++ bl l.P) ++ [((bl e.c, bl e.r), ln.length)]) = (bl l.D).length + ((bl l.P).length + ln.length) := by
        have : lens (openF 60 0 (bl l.D ++ bl l.P) ++ [((bl e.c, bl e.r), ln.length)]) = lens (openF 60 0 (bl l.D ++ bl l.P)) + ln.length := by simp [lens]
        omega
      have hmo : Lg.ok ⟨l.D, l.P ++ lb, l.n + 1⟩ = true := by
        unfold Lg.ok
        rw [logOk_iff]
        simp only
        rw [hap]
        refine ⟨by rw [hlens, eP, List.length_append], q2, by rw [List.length_append, List.length_singleton]; omega⟩
      have hsz := logOk_small (D := bl l.D) (P := bl (l.P ++ lb)) (logOk_iff.1 hmo).1
      have hrs : recOkS (l.D ++ (l.P ++ lb)) = true := recOkS_iff.2 (by rw [size_app l.D (l.P ++ lb), ← bl_size l.D, ← bl_size (l.P ++ lb)]; exact hsz)
      have hall : lens (openF 60 0 (bl (l.D ++ (l.P ++ lb)))) = (l.D ++ (l.P ++ lb)).size := by
        rw [bl_app l.D (l.P ++ lb), (logOk_iff.1 hmo).1, bl_size l.D, bl_size (l.P ++ lb), size_app l.D (l.P ++ lb)]
      have hrl : recsL l = openF 60 0 (bl l.D ++ bl l.P) := by unfold recsL; rw [hl, if_pos rfl]
      have hrm : recsL ⟨l.D, l.P ++ lb, l.n + 1⟩ = openF 60 0 (bl l.D ++ bl l.P) ++ [((bl e.c, bl e.r), ln.length)] := by unfold recsL; rw [hmo, if_pos rfl]; exact hap
      refine ⟨hmo, ⟨ln.length, by rw [hrm, hrl]⟩, by rw [hrm, List.length_append, List.length_singleton]; simp only; omega, hrs, by rw [(rec_yes hrs).2, hall], ?_⟩
      rw [(rec_yes hrs).1, hall]
      unfold syncLg
      rw [hmo, if_pos rfl]
      simp only
      congr 1
      · refine bl_inj ?_
        rw [bl_extract, List.drop_zero, List.take_of_length_le (by rw [bl_size]; exact Nat.le_refl _)]
      · rw [bl_app l.D (l.P ++ lb), hap, List.length_append, List.length_singleton]; omega
/-- What a crash leaves. -/
theorem crash_pre {l : Lg} (hl : l.ok = true) (k : Nat) (torn : Bool) : openF 60 0 (bl l.D ++ crashL (bl l.P) k torn) <+: openF 60 0 (bl l.D ++ bl l.P) := by
  obtain ⟨q1, q2, q3⟩ := logOk_iff.1 hl
  have ht : ∀ j, bl l.D ++ (bl l.P).take j = (bl l.D ++ bl l.P).take ((bl l.D).length + j) := fun j => by rw [List.take_length_add_append]
  unfold crashL
  split
  · rename_i h
    obtain ⟨_, hk⟩ := h
    by_cases hlt : k ≤ (bl l.P).length
    · have e : ((bl l.P).take k).set (k - 1) (255 - ((bl l.P).take k).getD (k - 1) 0) = (bl l.P).take (k - 1) ++ [255 - ((bl l.P).take k).getD (k - 1) 0] := by
        obtain ⟨j, rfl⟩ : ∃ j, k = j + 1 := ⟨k - 1, by omega⟩
        simp only [Nat.add_sub_cancel]
        generalize 255 - ((bl l.P).take (j + 1)).getD j 0 = x
        rw [List.take_succ_eq_append_getElem (by omega), List.set_append, if_neg (by rw [List.length_take]; omega)]
        have : j - (List.take j (bl l.P)).length = 0 := by rw [List.length_take]; omega
        rw [this]; rfl
      rw [e, ← List.append_assoc, ht]
      refine openF_cut ?_ 60 0 _ _
      have hb : (((bl l.P).take k).getD (k - 1) 0).toNat ≤ 126 := by
        rw [getD_of (by rw [List.length_take]; omega), List.getElem_take]
        exact openF_bytes 60 0 _ (by rw [q1, List.length_append]) _ (List.mem_append_right _ (List.getElem_mem _))
      rw [List.mem_singleton]
      intro e2
      have e3 := congrArg UInt8.toNat e2
      have e4 := u8_flip (((bl l.P).take k).getD (k - 1) 0)
      have : (10 : UInt8).toNat = 10 := rfl
      omega
    · have e : ((bl l.P).take k).set (k - 1) (255 - ((bl l.P).take k).getD (k - 1) 0) = bl l.P := by
        rw [List.take_of_length_le (by omega), List.set_eq_of_length_le (by omega)]
      rw [e]; exact List.prefix_rfl
  · rw [ht]
    have := openF_cut (x := []) (by simp) 60 0 (bl l.D ++ bl l.P) ((bl l.D).length + k)
    rwa [List.append_nil] at this
theorem crashL_len (p : List UInt8) (k : Nat) (torn : Bool) : (crashL p k torn).length ≤ p.length := by
  unfold crashL
  split
  · rw [List.length_set, List.length_take]; omega
  · rw [List.length_take]; omega
theorem recsL_rec {s : ByteArray} (h : recOkS s = true) : recsL (recLg s) = openF 60 0 (bl s) := by
  unfold recsL
  rw [rec_ok h, if_pos rfl, bl_recD h, (rec_yes h).1]
  simp only
  rw [show bl (⟨#[]⟩ : ByteArray) = [] from rfl, List.append_nil, openF_take]
theorem crash_law {l : Lg} {k : Int} {torn : Bool} (h : crashOk l k = true) : recOkS (crashT l k torn) = true ∧ l.D.size ≤ recLen (crashT l k torn) ∧ (recLg (crashT l k torn)).D = (crashT l k torn).extract 0 (recLen (crashT l k torn)) ∧
    ∀ m1 m2, recsOf (recsL (recLg (crashT l k torn))) m1 → recsOf (recsL l) m2 → m1.length ≤ m2.length ∧ m1 = m2.take m1.length := by
  have h' := h
  unfold crashOk at h'
  rw [Bool.and_eq_true] at h'
  have hl := h'.1
  obtain ⟨q1, q2, q3⟩ := logOk_iff.1 hl
  have hs := logOk_small q1
  obtain ⟨s, es⟩ : ∃ s, crashT l k torn = s := ⟨_, rfl⟩
  have eb : bl s = bl l.D ++ crashL (bl l.P) k.toNat torn := by
    rw [← es]; unfold crashT; rw [if_pos h, bl_app, bl_mk (crashL (bl l.P) k.toNat torn)]
  rw [es]
  have hz : recOkS s = true := recOkS_iff.2 (by
    have h1 := crashL_len (bl l.P) k.toNat torn
    rw [← bl_size, eb, List.length_append]; omega)
  have hp := crash_pre hl k.toNat torn
  rw [← eb] at hp
  refine ⟨hz, ?_, by rw [(rec_yes hz).1, (rec_yes hz).2], fun m1 m2 h1 h2 => ?_⟩
  · rw [(rec_yes hz).2, eb, ← bl_size, ← q2]
    exact lens_pre (openF_more 60 0 (bl l.D) _)
  · rw [recsL_rec hz] at h1
    have hrl : recsL l = openF 60 0 (bl l.D ++ bl l.P) := by unfold recsL; rw [hl, if_pos rfl]
    rw [hrl] at h2
    have n1 := recsOf_len h1
    have n2 := recsOf_len h2
    have e1 := List.prefix_iff_eq_take.1 hp
    refine ⟨by rw [n1, n2]; exact hp.length_le, recs_same h1 ?_⟩
    unfold recsOf at h2 ⊢
    rw [e1, ← n1, List.map_take, h2, List.map_take]
theorem crash_none {l : Lg} {k : Int} {torn : Bool} (h : crashOk l k = false) : crashT l k torn = ⟨#[]⟩ := by unfold crashT; rw [h]; rfl
theorem crashT_size (l : Lg) (k : Int) (torn : Bool) : (crashT l k torn).size ≤ l.D.size + l.P.size := by
  cases h : crashOk l k with
  | false => rw [crash_none h]; exact Nat.zero_le _
  | true =>
    unfold crashT
    rw [if_pos h, size_app, mk_size (crashL (bl l.P) k.toNat torn)]
    have := crashL_len (bl l.P) k.toNat torn
    rw [bl_size] at this; omega
theorem appLg_size {l : Lg} {e : Rec} (h : l.D.size + l.P.size ≤ 100000) (he : -1000 ≤ l.n ∧ l.n ≤ 1000) : (appLg l e).D.size + (appLg l e).P.size ≤ 200000 ∧ (-1000 ≤ (appLg l e).n ∧ (appLg l e).n ≤ 1001) := by
  cases hok : (l.ok && e.ok) with
  | false => rw [(appLg_no hok).1]; omega
  | true =>
    by_cases hn : l.n = 60
    · rw [(appLg_full hok hn).1]; omega
    · rw [(appLg_yes hok hn).1]
      rw [Bool.and_eq_true] at hok
      have hl := line_len (k := l.n.toNat) (show recOk (bl e.c) (bl e.r) = true from hok.2) (by omega)
      simp only [size_app, mk_size]
      omega
theorem app_same {l : Lg} {e : Rec} (h : appCode l e ≠ 0) : appLg l e = l := by
  cases hok : (l.ok && e.ok) with
  | false => exact (appLg_no hok).1
  | true =>
    by_cases hn : l.n = 60
    · exact (appLg_full hok hn).1
    · exact absurd (appLg_yes hok hn).2 h
theorem app_recs {l : Lg} {e : Rec} (h : appCode l e = 0) {m1 m2 : List Rec} (h1 : recsOf (recsL (appLg l e)) m1) (h2 : recsOf (recsL l) m2) : m1 = m2 ++ [e] := by
  obtain ⟨_, ⟨n, hn⟩, _⟩ := app_law h
  refine recs_same h1 ?_
  rw [hn]
  unfold recsOf at h2 ⊢
  rw [List.map_append, List.map_append, h2]; rfl
end Go.Proofs.YtojceibamgodbaaDoor

/- FnLogLines: the walk. (Printed by gen_lawlines.py) -/
namespace Go.Proofs.YtojceibamgodbaaDoor
open Go.RowKit

theorem vBig_any (A : Option Addr) (n c : Nat) (w : World) : Calls Tryd.prog 12 #[.slice A n c] w fun e w' => e = .returned (.bool (decide (65536 < n))) ∧ w = w' := by
  by_cases h : 65536 < n
  · have h1 : (65536 : Int) < n := by omega
    rw [decide_eq_true h]
    go_enter Tryd.func12, Tryd.ntmps12
    go_wp2
    go_ret
    exact ⟨by simp [h1], rfl⟩
  · have h1 : ¬ (65536 : Int) < n := by omega
    rw [decide_eq_false h]
    go_enter Tryd.func12, Tryd.ntmps12
    go_wp2
    go_ret
    exact ⟨by simp [h1], rfl⟩
/-- The tables stand, and nothing older has turned. -/
structure LT (w W : World) : Prop where
  tab : Tab W
  bl : Below w.heap.size w W
theorem LT.then {w W W' : World} (h : LT w W) (hb : Below W.heap.size W W') : LT w W' := ⟨h.tab.then hb, h.bl.trans (hb.mono h.bl.size)⟩
theorem below_new {W : World} (o : Obj) : Below W.heap.size W (W.alloc o) := (Below.refl W.heap.size W).alloc (Nat.le_refl _) o
theorem enc_size (k : Int) (e : Rec) : (encT k e).size ≤ 500 := by
  cases h : encOk k e with
  | true => exact (enc_law h).1
  | false => rw [enc_none h]; decide

set_option maxRecDepth 100000 in
set_option maxHeartbeats 8000000 in
set_option linter.unusedVariables false in
theorem lawLogLines_any (A : Option Addr) (cap : Nat) (bs : List UInt8) (w : World) (hr : BytesR w w.heap.size A bs) (ht : Tab w) :
    Calls Tryd.prog 6 #[.slice A bs.length cap] w fun e w' => e = .returned (.bool true) ∧ Below w.heap.size w w' := by
  by_cases hbig : 65536 < bs.length
  · have hb' : decide (65536 < bs.length) = true := decide_eq_true hbig
    go_enter Tryd.func6, Tryd.ntmps6
    go_wp2_with (go_at_call 12; refine (vBig_any _ _ _ _).mono ?_; rintro e w' ⟨rfl, rfl⟩)
    go_ret
    exact ⟨rfl, Below.refl _ _⟩
  · have hb' : decide (65536 < bs.length) = false := decide_eq_false hbig
    go_enter Tryd.func6, Tryd.ntmps6
    go_wp2_with fail
    refine (vBig_any _ _ _ _).mono ?_
    rintro e w' ⟨rfl, rfl⟩
    go_wp2_with fail
    clear hb' hbig
    have HBR := Lib.hid hr
    have HT := Lib.hid ht
    clear ht
    refine (drawEncode_any A cap bs w hr).mono ?_
    rintro e w1 ⟨k, r, rfl, ⟨hk1, hk2⟩, ⟨hs1, hs2⟩, hb1⟩
    have S1 : LT w w1 := ⟨HT.out.then hb1, hb1⟩
    clear hb1 hr HT
    have S2 := S1.then (below_new (W := w1) (.cells #[.string r.c, .string r.r] 45))
    have K4 := Lies.new w1 45 #[.string r.c, .string r.r]
    go_upto_region 4 with fail
    generalize w1.alloc (.cells #[.string r.c, .string r.r] 45) = w2 at S2 K4 ⊢
    generalize w1.heap.size = g4 at K4 ⊢
    clear S1
    have cI := fun W h => implEncode_any k r W (by omega) (by omega) (by omega) (by omega) h
    have cS := fun W => specEncode_any k r W (by omega) (by omega) (by omega) (by omega)
    have hLaw := fun h => enc_law (k := k) (e := r) h
    have hNone := fun h => enc_none (k := k) (e := r) h
    have hsz := enc_size k r
    obtain ⟨ok, hok⟩ : ∃ b, encOk k r = b := ⟨_, rfl⟩
    obtain ⟨s, hs⟩ : ∃ b, encT k r = b := ⟨_, rfl⟩
    simp only [hok, hs] at cI cS hLaw hNone hsz
    clear hok hs
    have HLaw := Lib.hid hLaw
    have HNone := Lib.hid hNone
    clear hLaw hNone
    have k0 := K4.cell 0
    have k1 := K4.cell 1
    simp only [List.getElem?_cons_zero, List.getElem?_cons_succ] at k0 k1
    go_wp2_with fail
    refine (cI w2 S2.tab).mono ?_
    rintro e w3 ⟨rfl, hb⟩
    have S3 := S2.then hb
    replace K4 := K4.below hb K4.lt
    clear S2 hb cI k0 k1
    have k0 := K4.cell 0
    have k1 := K4.cell 1
    simp only [List.getElem?_cons_zero, List.getElem?_cons_succ] at k0 k1
    go_wp2_with fail
    refine (cS w3).mono ?_
    rintro e w4 ⟨rfl, hb⟩
    have S4 := S3.then hb
    clear S3 hb cS k0 k1 K4
    go_wp2_with fail
    have hrd : BytesR w4 w4.heap.size A bs := SlcR.up HBR.out S4.bl (Nat.le_refl _)
    refine (drawRecover_any A cap bs w4 hrd).mono ?_
    rintro e w5 ⟨t, rfl, htz, hb⟩
    have S5 := S4.then hb
    clear S4 hb hrd HBR
    have cI := fun W h => implRecover_any t W (by omega) h
    have cS := fun W => specRecover_any t W (by omega)
    have hOk := fun h => rec_ok (s := t) h
    have hSy := fun h => rec_sync (s := t) h
    have hms := recLg_small t
    obtain ⟨told, htold⟩ : ∃ b, recOkS t = b := ⟨_, rfl⟩
    obtain ⟨m, hm⟩ : ∃ b, recLg t = b := ⟨_, rfl⟩
    obtain ⟨en, hen⟩ : ∃ b, recLen t = b := ⟨_, rfl⟩
    simp only [htold, hm, hen] at cI cS hOk hSy hms
    clear htold hm hen
    have HOk := Lib.hid hOk
    have HSy := Lib.hid hSy
    clear hOk hSy
    go_wp2_with fail
    refine (cI w5 S5.tab).mono ?_
    rintro e w6 ⟨rfl, hb⟩
    have S6 := (S5.then hb).then (below_new (W := w6) (.cells #[.string m.D, .string m.P, .int .i64 m.n] 36))
    have K10 := Lies.new w6 36 #[.string m.D, .string m.P, .int .i64 m.n]
    clear S5 hb cI
    go_upto_region 8 with fail
    generalize w6.alloc (.cells #[.string m.D, .string m.P, .int .i64 m.n] 36) = w7 at S6 K10 ⊢
    generalize w6.heap.size = g10 at K10 ⊢
    go_wp2_with fail
    refine (cS w7).mono ?_
    rintro e w8 ⟨rfl, hb⟩
    have S8 := (S6.then hb).then (below_new (W := w8) (.cells #[.string m.D, .string m.P, .int .i64 m.n] 36))
    have K13 := Lies.new w8 36 #[.string m.D, .string m.P, .int .i64 m.n]
    replace K10 := (K10.below hb K10.lt).alloc (.cells #[.string m.D, .string m.P, .int .i64 m.n] 36)
    clear S6 hb cS
    go_upto_region 9 with fail
    generalize w8.alloc (.cells #[.string m.D, .string m.P, .int .i64 m.n] 36) = w9 at S8 K10 K13 ⊢
    generalize w8.heap.size = g13 at K13 ⊢
    have x1 : (s.toList == s.toList) = true := by simp
    have x2 : (s.toList != s.toList) = false := by simp
    have x3 : (ok != ok) = false := by cases ok <;> rfl
    have x4 : (told != told) = false := by cases told <;> rfl
    have x5 : ((en : Int) != (en : Int)) = false := by simp
    have p0 := K10.cell 0
    have p1 := K10.cell 1
    have p2 := K10.cell 2
    simp only [List.getElem?_cons_zero, List.getElem?_cons_succ] at p0 p1 p2
    have q0 := K13.cell 0
    have q1 := K13.cell 1
    have q2 := K13.cell 2
    simp only [List.getElem?_cons_zero, List.getElem?_cons_succ] at q0 q1 q2
    go_upto_region 11 with fail
    clear x2 x3 x4 x5 p0 p1 p2 q0 q1 q2 K13
    have cI := fun W h => implRecover_any s W (by omega) h
    obtain ⟨xk, hxk⟩ : ∃ b, recOkS s = b := ⟨_, rfl⟩
    obtain ⟨xl, hxl⟩ : ∃ b, recLg s = b := ⟨_, rfl⟩
    obtain ⟨xf, hxf⟩ : ∃ b, recLen s = b := ⟨_, rfl⟩
    have hLaw := HLaw.out
    simp only [hxk, hxl, hxf] at cI hLaw
    clear HLaw hxk hxl hxf
    have HLaw := Lib.hid hLaw
    clear hLaw
    go_wp2_with fail
    refine (cI w9 S8.tab).mono ?_
    rintro e w10 ⟨rfl, hb⟩
    have S10 := (S8.then hb).then (below_new (W := w10) (.cells #[.string xl.D, .string xl.P, .int .i64 xl.n] 36))
    have K16 := Lies.new w10 36 #[.string xl.D, .string xl.P, .int .i64 xl.n]
    replace K10 := (K10.below hb K10.lt).alloc (.cells #[.string xl.D, .string xl.P, .int .i64 xl.n] 36)
    clear S8 hb cI x1
    go_upto_region 12 with fail
    generalize w10.alloc (.cells #[.string xl.D, .string xl.P, .int .i64 xl.n] 36) = w11 at S10 K10 K16 ⊢
    generalize w10.heap.size = g16 at K16 ⊢
    have r0 := K16.cell 0
    have r1 := K16.cell 1
    have r2 := K16.cell 2
    simp only [List.getElem?_cons_zero, List.getElem?_cons_succ] at r0 r1 r2
    go_cut [102] (fun s102 wx => s102 = .bool false ∧ wx = w11)
    case first => as_aux_lemma =>
      cases ok
      · go_wp2_with fail
        go_meet
        case rel => exact ⟨rfl, rfl⟩
      · obtain ⟨-, -, h1, h2⟩ := HLaw.out rfl
        by_cases hk0 : k = 0
        · have hn := h2 hk0
          rw [decide_eq_true hk0] at h1
          have h1' : 0 < xf := by have := of_decide_eq_true h1; omega
          have d1 : decide (0 < xf) = true := decide_eq_true h1'
          have d2 : (k == 0) = true := by rw [beq_iff_eq]; exact hk0
          have d3 : (xl.n != 1) = false := by rw [bne_eq_false_iff_eq]; exact hn
          clear hk0 hn h2 h1'
          go_wp2_with fail
          go_meet
          case rel => exact ⟨rfl, rfl⟩
        · rw [decide_eq_false hk0] at h1
          have h1' : ¬ 0 < xf := by have := of_decide_eq_false h1; omega
          have d1 : decide (0 < xf) = false := decide_eq_false h1'
          have d2 : (k == 0) = false := by rw [beq_eq_false_iff_ne]; exact hk0
          clear hk0 h2 h1'
          go_wp2_with fail
          go_meet
          case rel => exact ⟨rfl, rfl⟩
    case rest => as_aux_lemma =>
      obtain ⟨rfl, rfl⟩ := hcut
      clear K16 r0 r1 r2 HLaw
      have cS := fun W h => implSync_any m W (by omega) h
      have p0 := K10.cell 0
      have p1 := K10.cell 1
      have p2 := K10.cell 2
      simp only [List.getElem?_cons_zero, List.getElem?_cons_succ] at p0 p1 p2
      go_wp2_with fail
      refine (cS wc S10.tab).mono ?_
      rintro e w12 ⟨rfl, hb⟩
      obtain ⟨y, hy⟩ : ∃ y, syncLg m = y := ⟨_, rfl⟩
      obtain ⟨mo, hmo⟩ : ∃ b, m.ok = b := ⟨_, rfl⟩
      have hOk := HOk.out
      have hSy := HSy.out
      have cV := fun W h => implIsValidLog_any m W (by omega) h
      simp only [hy, hmo] at hOk hSy cV
      simp only [hy, hmo]
      clear hy hmo HOk HSy
      have S12 := (S10.then hb).then (below_new (W := w12) (.cells #[.string y.D, .string y.P, .int .i64 y.n] 36))
      have K19 := Lies.new w12 36 #[.string y.D, .string y.P, .int .i64 y.n]
      replace K10 := (K10.below hb K10.lt).alloc (.cells #[.string y.D, .string y.P, .int .i64 y.n] 36)
      clear S10 hb cS p0 p1 p2
      have HOk := Lib.hid hOk
      have HSy := Lib.hid hSy
      clear hOk hSy
      go_upto_region 15 with fail
      generalize w12.alloc (.cells #[.string y.D, .string y.P, .int .i64 y.n] 36) = w13 at S12 K10 K19 ⊢
      generalize w12.heap.size = g19 at K19 ⊢
      have p0 := K10.cell 0
      have p1 := K10.cell 1
      have p2 := K10.cell 2
      simp only [List.getElem?_cons_zero, List.getElem?_cons_succ] at p0 p1 p2
      have q0 := K19.cell 0
      have q1 := K19.cell 1
      have q2 := K19.cell 2
      simp only [List.getElem?_cons_zero, List.getElem?_cons_succ] at q0 q1 q2
      cases told
      · go_wp2_with fail
        go_ret
        exact ⟨rfl, S12.bl⟩
      · obtain rfl := HOk.out rfl
        obtain rfl := HSy.out rfl
        cases ok
        · obtain rfl := HNone.out rfl
          go_wp2_with fail
          refine (cV w13 S12.tab).mono ?_
          rintro e w14 ⟨rfl, hb⟩
          have S14 := S12.then hb
          go_wp2_with fail
          go_ret
          exact ⟨rfl, S14.bl⟩
        · go_wp2_with fail
          refine (cV w13 S12.tab).mono ?_
          rintro e w14 ⟨rfl, hb⟩
          have S14 := S12.then hb
          go_wp2_with fail
          go_ret
          exact ⟨rfl, S14.bl⟩
end Go.Proofs.YtojceibamgodbaaDoor

/- FnCrashRecovery: the walk. (Printed by gen_lawcrash.py) -/
namespace Go.Proofs.YtojceibamgodbaaDoor
open Go.RowKit

theorem RecsR.cellsS {w : World} {A : Option Addr} {m : List Rec} (h : RecsR w w.heap.size A m) (hne : 0 < m.length) : ∃ b off, A = some ⟨b, off, none⟩ ∧ b < w.heap.size ∧ ∀ i (hi : i < m.length) (p : Since w.heap.size w),
    p.val.cell? ⟨b, off + i * 2, none⟩ = some (.string m[i].c) ∧ p.val.cell? ⟨b, off + i * 2 + 1, none⟩ = some (.string m[i].r) := h.cells hne
set_option maxRecDepth 100000 in
set_option maxHeartbeats 8000000 in
set_option linter.unusedVariables false in
theorem lawCrashRecovery_any (A : Option Addr) (cap : Nat) (bs : List UInt8) (w : World) (hr : BytesR w w.heap.size A bs) (ht : Tab w) :
    Calls Tryd.prog 5 #[.slice A bs.length cap] w fun e w' => e = .returned (.bool true) ∧ Below w.heap.size w w' := by
  by_cases hbig : 65536 < bs.length
  · have hb' : decide (65536 < bs.length) = true := decide_eq_true hbig
    go_enter Tryd.func5, Tryd.ntmps5
    go_wp2_with (go_at_call 12; refine (vBig_any _ _ _ _).mono ?_; rintro e w' ⟨rfl, rfl⟩)
    go_ret
    exact ⟨rfl, Below.refl _ _⟩
  · have hb' : decide (65536 < bs.length) = false := decide_eq_false hbig
    go_enter Tryd.func5, Tryd.ntmps5
    go_wp2_with fail
    refine (vBig_any _ _ _ _).mono ?_
    rintro e w' ⟨rfl, rfl⟩
    go_wp2_with fail
    clear hb' hbig
    refine (drawCrash_any A cap bs w hr).mono ?_
    rintro e w1 ⟨l, k, tn, rfl, ⟨hz1, hz2, hz3⟩, ⟨hk1, hk2⟩, hb1⟩
    have S1 : LT w w1 := ⟨ht.then hb1, hb1⟩
    clear hb1 hr ht
    have S2 := S1.then (below_new (W := w1) (.cells #[.string l.D, .string l.P, .int .i64 l.n] 36))
    have K3 := Lies.new w1 36 #[.string l.D, .string l.P, .int .i64 l.n]
    go_upto_region 4 with fail
    generalize w1.alloc (.cells #[.string l.D, .string l.P, .int .i64 l.n] 36) = w2 at S2 K3 ⊢
    generalize w1.heap.size = g3 at K3 ⊢
    clear S1
    have cI := fun W h => implCrash_any l k tn W (by omega) h
    have cS := fun W => specCrash_any l k tn W (by omega)
    have hLaw := fun h => crash_law (l := l) (k := k) (torn := tn) h
    have hNone := fun h => crash_none (l := l) (k := k) (torn := tn) h
    have hsz := crashT_size l k tn
    obtain ⟨ok, hok⟩ : ∃ b, crashOk l k = b := ⟨_, rfl⟩
    obtain ⟨s, hs⟩ : ∃ b, crashT l k tn = b := ⟨_, rfl⟩
    simp only [hok, hs] at cI cS hLaw hNone hsz
    clear hok hs
    have HLaw := Lib.hid hLaw
    have HNone := Lib.hid hNone
    clear hLaw hNone
    have x1 : (s.toList == s.toList) = true := by simp
    have x2 : (s.toList != s.toList) = false := by simp
    have x3 : (ok != ok) = false := by cases ok <;> rfl
    have k0 := K3.cell 0
    have k1 := K3.cell 1
    have k2 := K3.cell 2
    simp only [List.getElem?_cons_zero, List.getElem?_cons_succ] at k0 k1 k2
    go_wp2_with fail
    refine (cI w2 S2.tab).mono ?_
    rintro e w3 ⟨rfl, hb⟩
    have S3 := S2.then hb
    replace K3 := K3.below hb K3.lt
    clear S2 hb cI k0 k1 k2
    have k0 := K3.cell 0
    have k1 := K3.cell 1
    have k2 := K3.cell 2
    simp only [List.getElem?_cons_zero, List.getElem?_cons_succ] at k0 k1 k2
    go_wp2_with fail
    refine (cS w3).mono ?_
    rintro e w4 ⟨rfl, hb⟩
    have S4 := S3.then hb
    replace K3 := K3.below hb K3.lt
    clear S3 hb cS k0 k1 k2
    cases ok
    · obtain rfl := HNone.out rfl
      go_wp2_with fail
      go_ret
      exact ⟨rfl, S4.bl⟩
    · obtain ⟨h1, h2, h3, h4⟩ := HLaw.out rfl
      clear HLaw HNone
      have cR := fun W h => implRecover_any s W (by omega) h
      have hOk := rec_ok h1
      have hms := recLg_small s
      have cL := fun W h => implLogRecords_any (recLg s) W (by have := hms.1; omega) h
      have cV := fun W h => implIsValidLog_any (recLg s) W (by have := hms.1; omega) h
      obtain ⟨m, hm⟩ : ∃ b, recLg s = b := ⟨_, rfl⟩
      obtain ⟨en, hen⟩ : ∃ b, recLen s = b := ⟨_, rfl⟩
      simp only [h1, hm, hen] at cR hOk hms h2 h3 h4 cL cV
      simp only [hOk] at cV
      clear hm hen h1 hOk
      have HD := Lib.hid h3
      have H4 := Lib.hid h4
      obtain ⟨hm1, hm2⟩ := hms
      clear h3 h4
      have cO := fun W => specLogRecords_any l W (by omega)
      go_wp2_with fail
      refine (cR w4 S4.tab).mono ?_
      rintro e w5 ⟨rfl, hb⟩
      have S5 := (S4.then hb).then (below_new (W := w5) (.cells #[.string m.D, .string m.P, .int .i64 m.n] 36))
      have K10 := Lies.new w5 36 #[.string m.D, .string m.P, .int .i64 m.n]
      replace K3 := (K3.below hb K3.lt).alloc (.cells #[.string m.D, .string m.P, .int .i64 m.n] 36)
      clear S4 hb cR
      go_upto_region 11 with fail
      generalize w5.alloc (.cells #[.string m.D, .string m.P, .int .i64 m.n] 36) = w6 at S5 K10 K3 ⊢
      generalize w5.heap.size = g10 at K10 ⊢
      have p0 := K10.cell 0
      have p1 := K10.cell 1
      have p2 := K10.cell 2
      simp only [List.getElem?_cons_zero, List.getElem?_cons_succ] at p0 p1 p2
      go_wp2_with fail
      refine (cL w6 S5.tab).mono ?_
      rintro e w7 ⟨A1, c1, m1, rfl, hr1, ho1, hb⟩
      have I1 := RecsR.of ho1
      have S7 := S5.then hb
      replace K10 := K10.below hb K10.lt
      replace K3 := K3.below hb K3.lt
      clear S5 hb cL ho1 p0 p1 p2
      have k0 := K3.cell 0
      have k1 := K3.cell 1
      have k2 := K3.cell 2
      simp only [List.getElem?_cons_zero, List.getElem?_cons_succ] at k0 k1 k2
      go_wp2_with fail
      refine (cO w7).mono ?_
      rintro e w8 ⟨A2, c2, m2, rfl, hr2, ho2, hb⟩
      have I2 := RecsR.of ho2
      replace I1 := I1.then hb
      have S8 := S7.then hb
      replace K10 := K10.below hb K10.lt
      replace K3 := K3.below hb K3.lt
      clear S7 hb cO ho2 k0 k1 k2
      obtain ⟨hlen, heq⟩ := H4.out m1 m2 hr1 hr2
      clear hr1 hr2 H4
      have HE : Hid (∀ i (h1 : i < m1.length) (h2 : i < m2.length), m1[i] = m2[i]) := fun i h1 h2 => by
        have h5 : m1[i]? = (m2.take m1.length)[i]? := by rw [← heq]
        rw [List.getElem?_take, if_pos h1, List.getElem?_eq_getElem h1, List.getElem?_eq_getElem h2] at h5
        exact Option.some.inj h5
      clear heq
      have d1 : decide ((s.size : Int) < (en : Int)) = false := decide_eq_false (by omega)
      have d2 : decide ((en : Int) < (l.D.size : Int)) = false := decide_eq_false (by omega)
      have d3 : decide ((m2.length : Int) < (m1.length : Int)) = false := decide_eq_false (by omega)
      have e1 : decide (s.size < en) = false := decide_eq_false (by omega)
      have e2 : decide (en < l.D.size) = false := decide_eq_false (by omega)
      have e3 : decide (m2.length < m1.length) = false := decide_eq_false (by omega)
      have k0 := K3.cell 0
      have k1 := K3.cell 1
      have k2 := K3.cell 2
      simp only [List.getElem?_cons_zero, List.getElem?_cons_succ] at k0 k1 k2
      have hbig1 := SlcR.big I1
      have hrd1 := I1.cellsS
      have hrd2 := I2.cellsS
      clear K3
      go_wp2_with fail
      go_loopw [17] (fun i wr => ∃ k : Nat, k ≤ m1.length ∧ i = .int .i64 k ∧ (∃ q : Since w8.heap.size w8, wr = q.val)) (fun i _ => m1.length - (intOf i).toNat)
      case atStart => exact ⟨0, Nat.zero_le _, rfl, ⟨Since.start _ _, rfl⟩⟩
      case round =>
        obtain ⟨k, hk, rfl, ⟨q, rfl⟩⟩ := hrel
        by_cases hlt : k < m1.length
        · obtain ⟨b1, o1, rfl, hb1, hc1⟩ := hrd1 (by omega)
          obtain ⟨b2, o2, rfl, hb2, hc2⟩ := hrd2 (by omega)
          obtain ⟨c0, c1⟩ := forall_and.1 (hc1 k hlt)
          obtain ⟨d0, d1⟩ := forall_and.1 (hc2 k (by omega))
          have e5 := HE.out k hlt (by omega)
          rw [← e5] at d0 d1
          generalize m1[k] = r at c0 c1 d0 d1
          clear hc1 hc2 hrd1 hrd2 e5
          have z1 : (r.c.toList == r.c.toList) = true := by simp
          have z2 : (r.r.toList == r.r.toList) = true := by simp
          go_wp2_with fail
          refine wp_region_since _ (by kernel_rfl) (by kernel_rfl) ?_
          repeat (any_goals (first | go_big_quiet_step ((fail)) | (refine wpQuiet_step (fun K hK => ?_); go_simp; split <;> (refine hK _ ?_; clear hK K))))
          all_goals (refine wpQuiet_nil ?_; rintro _ ⟨q1, rfl⟩)
          go_wp2_with fail
          go_roundw
          case rel => exact ⟨k + 1, by omega, by go_num, ⟨q1, rfl⟩⟩
          case measure => simp [intOf]; omega
        · have S9 := S8.then q.below
          have K109 := K10.below q.below K10.lt
          have p0 : ∀ p : Since q.val.heap.size q.val, p.val.cell? ⟨g10, 0, none⟩ = some (.string m.D) := fun p => by rw [p.cell K109.lt, K109.cell]; rfl
          have p1 : ∀ p : Since q.val.heap.size q.val, p.val.cell? ⟨g10, 1, none⟩ = some (.string m.P) := fun p => by rw [p.cell K109.lt, K109.cell]; rfl
          have p2 : ∀ p : Since q.val.heap.size q.val, p.val.cell? ⟨g10, 2, none⟩ = some (.int .i64 m.n) := fun p => by rw [p.cell K109.lt, K109.cell]; rfl
          have HV : Hid (∀ p : Since q.val.heap.size q.val, Calls Tryd.prog 16 #[m.val] p.val fun e w' => e = .returned (.bool true) ∧ Below p.val.heap.size p.val w') := fun p => cV p.val (S9.tab.then p.below)
          have y1 : (m.D.toList == (s.extract 0 en).toList) = true := by rw [← HD.out]; simp
          clear hrd1 hrd2 cV I1 I2 K10 HE
          go_wp2_with fail
          refine wp_region_since0 (by kernel_rfl) (by kernel_rfl) ?_
          repeat (any_goals (first | go_big_quiet_step ((go_at_call 16; refine calls_since (Nat.le_refl _) (HV.out _))) | (refine wpQuiet_step (fun K hK => ?_); go_simp; split <;> (refine hK _ ?_; clear hK K))))
          all_goals (refine wpQuiet_nil ?_; rintro _ ⟨q1, rfl⟩)
          go_wp2_with fail
          go_ret
          exact ⟨rfl, S9.bl.trans (q1.below.mono S9.bl.size)⟩
end Go.Proofs.YtojceibamgodbaaDoor

/- FnLog: the walk. (Printed by gen_lawlog.py) -/
namespace Go.Proofs.YtojceibamgodbaaDoor
open Go.RowKit

theorem specIsValidRecord_any (e : Rec) (w : World) (h1 : e.c.size ≤ 1000000000) (h2 : e.r.size ≤ 1000000000) :
    Calls Tryd.prog 19 #[e.val] w fun en w' => en = .returned (.bool e.ok) ∧ Below w.heap.size w w' := by
  have b1 := (Below.refl w.heap.size w).alloc (Nat.le_refl _) (.cells #[.string e.c, .string e.r] 45)
  go_enter Tryd.func19, Tryd.ntmps19
  go_wp2_with fail
  refine (l33Good_any e _ h1 h2).mono ?_
  rintro en w1 ⟨rfl, hb1⟩
  go_wp2
  go_ret
  exact ⟨rfl, bthen b1 hb1⟩
theorem implIsValidRecord_any (e : Rec) (w : World) (h1 : e.c.size ≤ 1000000000) (h2 : e.r.size ≤ 1000000000) :
    Calls Tryd.prog 18 #[e.val] w fun en w' => en = .returned (.bool e.ok) ∧ Below w.heap.size w w' := by
  have b1 := (Below.refl w.heap.size w).alloc (Nat.le_refl _) (.cells #[.string e.c, .string e.r] 45)
  go_enter Tryd.func18, Tryd.ntmps18
  go_wp2_with fail
  refine (isRecord_any e _ h1 h2).mono ?_
  rintro en w1 ⟨rfl, hb1⟩
  go_wp2
  go_ret
  exact ⟨rfl, bthen b1 hb1⟩

set_option maxRecDepth 100000 in
set_option maxHeartbeats 8000000 in
set_option linter.unusedVariables false in
theorem lawLog_any (A : Option Addr) (cap : Nat) (bs : List UInt8) (w : World) (hr : BytesR w w.heap.size A bs) (ht : Tab w) :
    Calls Tryd.prog 4 #[.slice A bs.length cap] w fun e w' => e = .returned (.bool true) ∧ Below w.heap.size w w' := by
  by_cases hbig : 65536 < bs.length
  · have hb' : decide (65536 < bs.length) = true := decide_eq_true hbig
    go_enter Tryd.func4, Tryd.ntmps4
    go_wp2_with (go_at_call 12; refine (vBig_any _ _ _ _).mono ?_; rintro e w' ⟨rfl, rfl⟩)
    go_ret
    exact ⟨rfl, Below.refl _ _⟩
  · have hb' : decide (65536 < bs.length) = false := decide_eq_false hbig
    go_enter Tryd.func4, Tryd.ntmps4
    go_wp2_with fail
    refine (vBig_any _ _ _ _).mono ?_
    rintro e w' ⟨rfl, rfl⟩
    go_wp2_with fail
    clear hb' hbig
    refine (drawAppend_any A cap bs w hr).mono ?_
    rintro e w1 ⟨l, r, rfl, ⟨hz1, hz2, hz3⟩, ⟨hs1, hs2⟩, hb1⟩
    have S1 : LT w w1 := ⟨ht.then hb1, hb1⟩
    clear hb1 hr ht
    have S2 := (S1.then (below_new (W := w1) (.cells #[.string l.D, .string l.P, .int .i64 l.n] 36))).then (below_new (.cells #[.string r.c, .string r.r] 45))
    have K3 := (Lies.new w1 36 #[.string l.D, .string l.P, .int .i64 l.n]).alloc (.cells #[.string r.c, .string r.r] 45)
    have K4 := Lies.newB w1 (.cells #[.string l.D, .string l.P, .int .i64 l.n] 36) 45 #[.string r.c, .string r.r]
    go_upto_region 4 with fail
    generalize (w1.alloc (.cells #[.string l.D, .string l.P, .int .i64 l.n] 36)).alloc (.cells #[.string r.c, .string r.r] 45) = w2 at S2 K3 K4 ⊢
    generalize w1.heap.size = g3 at K3 K4 ⊢
    obtain ⟨g4, hg4⟩ : ∃ g4, g3 + 1 = g4 := ⟨_, rfl⟩
    rw [hg4] at K4 ⊢
    clear S1 hg4
    have cI := fun W h => implAppend_any l r W (by omega) (by omega) (by omega) h
    have cS := fun W => specAppend_any l r W (by omega) (by omega) (by omega)
    have hms := appLg_size (l := l) (e := r) (by omega) (by omega)
    have hLaw := fun h => app_law (l := l) (e := r) h
    have hSame := fun h => app_same (l := l) (e := r) h
    have hRecs := fun h m1 m2 h1 h2 => app_recs (l := l) (e := r) h (m1 := m1) (m2 := m2) h1 h2
    obtain ⟨m, hm⟩ : ∃ b, appLg l r = b := ⟨_, rfl⟩
    obtain ⟨co, hco⟩ : ∃ b, appCode l r = b := ⟨_, rfl⟩
    simp only [hm, hco] at cI cS hms hLaw hSame hRecs
    clear hm hco
    have HLaw := Lib.hid hLaw
    have HSame := Lib.hid hSame
    have HRecs := Lib.hid hRecs
    clear hLaw hSame hRecs
    obtain ⟨hm1, hm2, hm3⟩ := hms
    have k0 := K3.cell 0
    have k1 := K3.cell 1
    have k2 := K3.cell 2
    simp only [List.getElem?_cons_zero, List.getElem?_cons_succ] at k0 k1 k2
    have j0 := K4.cell 0
    have j1 := K4.cell 1
    simp only [List.getElem?_cons_zero, List.getElem?_cons_succ] at j0 j1
    go_wp2_with fail
    refine (cI w2 S2.tab).mono ?_
    rintro e w3 ⟨rfl, hb⟩
    have S3 := (S2.then hb).then (below_new (W := w3) (.cells #[.string m.D, .string m.P, .int .i64 m.n] 36))
    have K5 := Lies.new w3 36 #[.string m.D, .string m.P, .int .i64 m.n]
    replace K3 := (K3.below hb K3.lt).alloc (.cells #[.string m.D, .string m.P, .int .i64 m.n] 36)
    replace K4 := (K4.below hb K4.lt).alloc (.cells #[.string m.D, .string m.P, .int .i64 m.n] 36)
    clear S2 hb cI k0 k1 k2 j0 j1
    go_upto_region 5 with fail
    generalize w3.alloc (.cells #[.string m.D, .string m.P, .int .i64 m.n] 36) = w4 at S3 K3 K4 K5 ⊢
    generalize w3.heap.size = g5 at K5 ⊢
    have k0 := K3.cell 0
    have k1 := K3.cell 1
    have k2 := K3.cell 2
    simp only [List.getElem?_cons_zero, List.getElem?_cons_succ] at k0 k1 k2
    have j0 := K4.cell 0
    have j1 := K4.cell 1
    simp only [List.getElem?_cons_zero, List.getElem?_cons_succ] at j0 j1
    go_wp2_with fail
    refine (cS w4).mono ?_
    rintro e w5 ⟨rfl, hb⟩
    have S5 := (S3.then hb).then (below_new (W := w5) (.cells #[.string m.D, .string m.P, .int .i64 m.n] 36))
    have K7 := Lies.new w5 36 #[.string m.D, .string m.P, .int .i64 m.n]
    replace K3 := (K3.below hb K3.lt).alloc (.cells #[.string m.D, .string m.P, .int .i64 m.n] 36)
    replace K4 := (K4.below hb K4.lt).alloc (.cells #[.string m.D, .string m.P, .int .i64 m.n] 36)
    replace K5 := (K5.below hb K5.lt).alloc (.cells #[.string m.D, .string m.P, .int .i64 m.n] 36)
    clear S3 hb cS k0 k1 k2 j0 j1
    go_upto_region 6 with fail
    generalize w5.alloc (.cells #[.string m.D, .string m.P, .int .i64 m.n] 36) = w6 at S5 K3 K4 K5 K7 ⊢
    generalize w5.heap.size = g7 at K7 ⊢
    have HV1 : Hid (∀ p : Since w6.heap.size w6, Calls Tryd.prog 16 #[l.val] p.val fun e w' => e = .returned (.bool l.ok) ∧ Below p.val.heap.size p.val w') := fun p => implIsValidLog_any l p.val (by omega) (S5.tab.then p.below)
    have HV2 : Hid (∀ p : Since w6.heap.size w6, Calls Tryd.prog 17 #[l.val] p.val fun e w' => e = .returned (.bool l.ok) ∧ Below p.val.heap.size p.val w') := fun p => specIsValidLog_any l p.val (by omega)
    have HV3 : Hid (∀ p : Since w6.heap.size w6, Calls Tryd.prog 18 #[r.val] p.val fun e w' => e = .returned (.bool r.ok) ∧ Below p.val.heap.size p.val w') := fun p => implIsValidRecord_any r p.val (by omega) (by omega)
    have HV4 : Hid (∀ p : Since w6.heap.size w6, Calls Tryd.prog 19 #[r.val] p.val fun e w' => e = .returned (.bool r.ok) ∧ Below p.val.heap.size p.val w') := fun p => specIsValidRecord_any r p.val (by omega) (by omega)
    have a0 : ∀ p : Since w6.heap.size w6, p.val.cell? ⟨g5, 0, none⟩ = some (.string m.D) := fun p => by rw [p.cell K5.lt, K5.cell]; rfl
    have a1 : ∀ p : Since w6.heap.size w6, p.val.cell? ⟨g5, 1, none⟩ = some (.string m.P) := fun p => by rw [p.cell K5.lt, K5.cell]; rfl
    have a2 : ∀ p : Since w6.heap.size w6, p.val.cell? ⟨g5, 2, none⟩ = some (.int .i64 m.n) := fun p => by rw [p.cell K5.lt, K5.cell]; rfl
    have b0 : ∀ p : Since w6.heap.size w6, p.val.cell? ⟨g7, 0, none⟩ = some (.string m.D) := fun p => by rw [p.cell K7.lt, K7.cell]; rfl
    have b1 : ∀ p : Since w6.heap.size w6, p.val.cell? ⟨g7, 1, none⟩ = some (.string m.P) := fun p => by rw [p.cell K7.lt, K7.cell]; rfl
    have b2 : ∀ p : Since w6.heap.size w6, p.val.cell? ⟨g7, 2, none⟩ = some (.int .i64 m.n) := fun p => by rw [p.cell K7.lt, K7.cell]; rfl
    have c0 : ∀ p : Since w6.heap.size w6, p.val.cell? ⟨g3, 0, none⟩ = some (.string l.D) := fun p => by rw [p.cell K3.lt, K3.cell]; rfl
    have c1 : ∀ p : Since w6.heap.size w6, p.val.cell? ⟨g3, 1, none⟩ = some (.string l.P) := fun p => by rw [p.cell K3.lt, K3.cell]; rfl
    have c2 : ∀ p : Since w6.heap.size w6, p.val.cell? ⟨g3, 2, none⟩ = some (.int .i64 l.n) := fun p => by rw [p.cell K3.lt, K3.cell]; rfl
    have d0 : ∀ p : Since w6.heap.size w6, p.val.cell? ⟨g4, 0, none⟩ = some (.string r.c) := fun p => by rw [p.cell K4.lt, K4.cell]; rfl
    have d1 : ∀ p : Since w6.heap.size w6, p.val.cell? ⟨g4, 1, none⟩ = some (.string r.r) := fun p => by rw [p.cell K4.lt, K4.cell]; rfl
    obtain ⟨lo, hlo⟩ : ∃ b, l.ok = b := ⟨_, rfl⟩
    obtain ⟨ro, hro⟩ : ∃ b, r.ok = b := ⟨_, rfl⟩
    simp only [hlo] at HV1 HV2
    simp only [hro] at HV3 HV4
    clear hlo hro
    have x1 : (m.D.toList == m.D.toList) = true := by simp
    have x2 : (m.P.toList == m.P.toList) = true := by simp
    have x3 : (m.n == m.n) = true := by simp
    have x4 : (co != co) = false := by simp
    have x5 : (lo != lo) = false := by cases lo <;> rfl
    have x6 : (ro != ro) = false := by cases ro <;> rfl
    go_cut [59] (fun s59 wx => s59 = .bool false ∧ Below w6.heap.size w6 wx)
    case first => as_aux_lemma =>
      refine wp_region_since0 (by kernel_rfl) (by kernel_rfl) ?_
      repeat (any_goals (first | go_big_quiet_step ((first | (go_at_call 16; refine calls_since (Nat.le_refl _) (HV1.out _)) | (go_at_call 17; refine calls_since (Nat.le_refl _) (HV2.out _)) | (go_at_call 18; refine calls_since (Nat.le_refl _) (HV3.out _)) | (go_at_call 19; refine calls_since (Nat.le_refl _) (HV4.out _)))) | (refine wpQuiet_step (fun K hK => ?_); go_simp; split <;> (refine hK _ ?_; clear hK K))))
      all_goals (refine wpQuiet_nil ?_; rintro _ ⟨q1, rfl⟩)
      go_wp2_with fail
      go_meet
      case rel => exact ⟨rfl, q1.below⟩
    case rest => as_aux_lemma =>
      obtain ⟨rfl, hx⟩ := hcut
      have S6 := S5.then hx
      replace K3 := K3.below hx K3.lt
      replace K4 := K4.below hx K4.lt
      replace K5 := K5.below hx K5.lt
      clear hx S5 K7 HV1 HV2 HV3 HV4 a0 a1 a2 b0 b1 b2 c0 c1 c2 d0 d1 x1 x2 x3 x4 x5 x6
      by_cases hco : co = 0
      · subst hco
        obtain ⟨h1, -, h3, h4, h5, h6⟩ := HLaw.out rfl
        have hrec := HRecs.out rfl
        clear HLaw HSame HRecs
        have cL := fun W h => implLogRecords_any m W (by omega) h
        have cO := fun W h => implLogRecords_any l W (by omega) h
        have hcat : (m.D ++ m.P).size ≤ 200000 := by rw [size_app]; omega
        have cR := fun W h => implRecover_any (m.D ++ m.P) W (by omega) h
        have cY := fun W h => implSync_any m W (by omega) h
        have cV := fun W h => implIsValidLog_any m W (by omega) h
        obtain ⟨y, hy⟩ : ∃ y, recLg (m.D ++ m.P) = y := ⟨_, rfl⟩
        simp only [h6, h5, h4, h1, hy] at cR cY cV
        clear h6 h5 h4 hy
        unfold GivesRecs at cL
        simp only [h1] at cL
        clear h1
        have H3 := Lib.hid h3
        have HR := Lib.hid hrec
        clear h3 hrec
        have n0 := K5.cell 0
        have n1 := K5.cell 1
        have n2 := K5.cell 2
        simp only [List.getElem?_cons_zero, List.getElem?_cons_succ] at n0 n1 n2
        go_wp2_with fail
        refine (cL wc S6.tab).mono ?_
        rintro e w8 ⟨A1, c1, m1, rfl, hr1, ho1, hb⟩
        have I1 := RecsR.of ho1
        have S8 := S6.then hb
        replace K3 := K3.below hb K3.lt
        replace K4 := K4.below hb K4.lt
        replace K5 := K5.below hb K5.lt
        have hn := recsOf_len hr1
        clear S6 hb cL ho1 n0 n1 n2
        obtain ⟨z1, hz1⟩ : ∃ n, m1.length = n := ⟨_, rfl⟩
        rw [hz1]
        have n0 := K3.cell 0
        have n1 := K3.cell 1
        have n2 := K3.cell 2
        simp only [List.getElem?_cons_zero, List.getElem?_cons_succ] at n0 n1 n2
        go_wp2_with fail
        refine (cO w8 S8.tab).mono ?_
        rintro e w9 ⟨A2, c2, m2, rfl, hr2, ho2, hb⟩
        have I2 := RecsR.of ho2
        replace I1 := I1.then hb
        have S9 := S8.then hb
        replace K4 := K4.below hb K4.lt
        replace K5 := K5.below hb K5.lt
        clear S8 hb cO ho2 n0 n1 n2 K3
        have hm12 := HR.out m1 m2 hr1 hr2
        have hm60 := recsL_len l hr2
        have hz2 : z1 = m2.length + 1 := by rw [← hz1, hm12]; simp
        have hmn : m.n = ((m2.length + 1 : Nat) : Int) := by rw [H3.out, ← hn, hz1, hz2]
        have HM := Lib.hid hm12
        have HMN := Lib.hid hmn
        clear hr1 hr2 HR hn H3 hm12 hz1 hmn
        subst hz2
        have n0 := K5.cell 0
        have n1 := K5.cell 1
        have n2 := K5.cell 2
        simp only [List.getElem?_cons_zero, List.getElem?_cons_succ] at n0 n1 n2
        go_wp2_with fail
        refine (cR w9 S9.tab).mono ?_
        rintro e w10 ⟨rfl, hb⟩
        have S10 := (S9.then hb).then (below_new (W := w10) (.cells #[.string y.D, .string y.P, .int .i64 y.n] 36))
        have K13 := Lies.new w10 36 #[.string y.D, .string y.P, .int .i64 y.n]
        have hb2 := bthen hb (below_new (W := w10) (.cells #[.string y.D, .string y.P, .int .i64 y.n] 36))
        replace I1 := I1.then hb2
        replace I2 := I2.then hb2
        replace K4 := K4.below hb2 K4.lt
        replace K5 := K5.below hb2 K5.lt
        clear S9 hb hb2 cR n0 n1 n2
        go_upto_region 13 with fail
        generalize w10.alloc (.cells #[.string y.D, .string y.P, .int .i64 y.n] 36) = w11 at S10 K4 K5 K13 I1 I2 ⊢
        generalize w10.heap.size = g13 at K13 ⊢
        have n0 := K5.cell 0
        have n1 := K5.cell 1
        have n2 := K5.cell 2
        simp only [List.getElem?_cons_zero, List.getElem?_cons_succ] at n0 n1 n2
        go_wp2_with fail
        refine (cY w11 S10.tab).mono ?_
        rintro e w12 ⟨rfl, hb⟩
        have S12 := (S10.then hb).then (below_new (W := w12) (.cells #[.string y.D, .string y.P, .int .i64 y.n] 36))
        have K16 := Lies.new w12 36 #[.string y.D, .string y.P, .int .i64 y.n]
        have hb2 := bthen hb (below_new (W := w12) (.cells #[.string y.D, .string y.P, .int .i64 y.n] 36))
        replace I1 := I1.then hb2
        replace I2 := I2.then hb2
        replace K4 := K4.below hb2 K4.lt
        replace K5 := K5.below hb2 K5.lt
        replace K13 := K13.below hb2 K13.lt
        clear S10 hb hb2 cY n0 n1 n2
        go_upto_region 14 with fail
        generalize w12.alloc (.cells #[.string y.D, .string y.P, .int .i64 y.n] 36) = w13 at S12 K4 K5 K13 K16 I1 I2 ⊢
        generalize w12.heap.size = g16 at K16 ⊢
        have hw1 : IntKind.i64.wrap ((m2.length : Int) + 1) = (m2.length : Int) + 1 := IntWalk.i64_in _ (by omega)
        have x8 : (m.n != (m2.length : Int) + 1) = false := by rw [bne_eq_false_iff_eq, HMN.out]; omega
        have hbig2 := SlcR.big I2
        have hbig1 := SlcR.big I1
        have n0 := K5.cell 0
        have n1 := K5.cell 1
        have n2 := K5.cell 2
        simp only [List.getElem?_cons_zero, List.getElem?_cons_succ] at n0 n1 n2
        go_upto_region 16 with fail
        have I1' : RecsR w13 w13.heap.size A1 (m2 ++ [r]) := by have h := HM.out; rw [← h]; exact I1
        have hrd1 := I1'.cellsS
        have hrd2 := I2.cellsS
        clear I1 I1' I2 hbig1 x8 hw1 n0 n1 n2 HMN HM
        go_wp2_with fail
        go_loopw [18] (fun i wr => ∃ k : Nat, k ≤ m2.length ∧ i = .int .i64 k ∧ (∃ q : Since w13.heap.size w13, wr = q.val)) (fun i _ => m2.length - (intOf i).toNat)
        case atStart => exact ⟨0, Nat.zero_le _, rfl, ⟨Since.start _ _, rfl⟩⟩
        case round =>
          obtain ⟨k, hk, rfl, ⟨q, rfl⟩⟩ := hrel
          obtain ⟨b1, o1, rfl, hb1, hc1⟩ := hrd1 (by simp)
          by_cases hlt : k < m2.length
          · obtain ⟨b2, o2, rfl, hb2, hc2⟩ := hrd2 (by omega)
            have hc3 := hc1 k (by simp; omega)
            rw [List.getElem_append_left hlt] at hc3
            obtain ⟨c0, c1'⟩ := forall_and.1 hc3
            obtain ⟨d0, d1⟩ := forall_and.1 (hc2 k hlt)
            generalize m2[k] = r2 at c0 c1' d0 d1
            clear hc1 hc2 hrd1 hrd2 hc3
            have z1 : (r2.c.toList == r2.c.toList) = true := by simp
            have z2 : (r2.r.toList == r2.r.toList) = true := by simp
            go_wp2_with fail
            refine wp_region_since _ (by kernel_rfl) (by kernel_rfl) ?_
            repeat (any_goals (first | go_big_quiet_step ((fail)) | (refine wpQuiet_step (fun K hK => ?_); go_simp; split <;> (refine hK _ ?_; clear hK K))))
            all_goals (refine wpQuiet_nil ?_; rintro _ ⟨q1, rfl⟩)
            go_wp2_with fail
            go_roundw
            case rel => exact ⟨k + 1, by omega, by go_num, ⟨q1, rfl⟩⟩
            case measure => simp [intOf]; omega
          · have hc3 := hc1 m2.length (by simp)
            rw [List.getElem_append_right (Nat.le_refl _)] at hc3
            simp only [Nat.sub_self, List.getElem_cons_zero] at hc3
            have S9 := S12.then q.below
            have hb1' : b1 < w13.heap.size := hb1
            obtain ⟨c0, c1'⟩ : (∀ p : Since q.val.heap.size q.val, p.val.cell? ⟨b1, o1 + m2.length * 2, none⟩ = some (.string r.c)) ∧ (∀ p : Since q.val.heap.size q.val, p.val.cell? ⟨b1, o1 + m2.length * 2 + 1, none⟩ = some (.string r.r)) := by
              constructor
              · intro p; exact (hc3 ⟨p.val, q.below.trans (p.below.mono q.size)⟩).1
              · intro p; exact (hc3 ⟨p.val, q.below.trans (p.below.mono q.size)⟩).2
            have K4' := K4.below q.below K4.lt
            have K5' := K5.below q.below K5.lt
            have K13' := K13.below q.below K13.lt
            have K16' := K16.below q.below K16.lt
            have s0 : ∀ p : Since q.val.heap.size q.val, p.val.cell? ⟨g4, 0, none⟩ = some (.string r.c) := fun p => by rw [p.cell K4'.lt, K4'.cell]; rfl
            have s1 : ∀ p : Since q.val.heap.size q.val, p.val.cell? ⟨g4, 1, none⟩ = some (.string r.r) := fun p => by rw [p.cell K4'.lt, K4'.cell]; rfl
            have t0 : ∀ p : Since q.val.heap.size q.val, p.val.cell? ⟨g5, 0, none⟩ = some (.string m.D) := fun p => by rw [p.cell K5'.lt, K5'.cell]; rfl
            have t1 : ∀ p : Since q.val.heap.size q.val, p.val.cell? ⟨g5, 1, none⟩ = some (.string m.P) := fun p => by rw [p.cell K5'.lt, K5'.cell]; rfl
            have t2 : ∀ p : Since q.val.heap.size q.val, p.val.cell? ⟨g5, 2, none⟩ = some (.int .i64 m.n) := fun p => by rw [p.cell K5'.lt, K5'.cell]; rfl
            have u0 : ∀ p : Since q.val.heap.size q.val, p.val.cell? ⟨g13, 0, none⟩ = some (.string y.D) := fun p => by rw [p.cell K13'.lt, K13'.cell]; rfl
            have u1 : ∀ p : Since q.val.heap.size q.val, p.val.cell? ⟨g13, 1, none⟩ = some (.string y.P) := fun p => by rw [p.cell K13'.lt, K13'.cell]; rfl
            have u2 : ∀ p : Since q.val.heap.size q.val, p.val.cell? ⟨g13, 2, none⟩ = some (.int .i64 y.n) := fun p => by rw [p.cell K13'.lt, K13'.cell]; rfl
            have v0 : ∀ p : Since q.val.heap.size q.val, p.val.cell? ⟨g16, 0, none⟩ = some (.string y.D) := fun p => by rw [p.cell K16'.lt, K16'.cell]; rfl
            have v1 : ∀ p : Since q.val.heap.size q.val, p.val.cell? ⟨g16, 1, none⟩ = some (.string y.P) := fun p => by rw [p.cell K16'.lt, K16'.cell]; rfl
            have v2 : ∀ p : Since q.val.heap.size q.val, p.val.cell? ⟨g16, 2, none⟩ = some (.int .i64 y.n) := fun p => by rw [p.cell K16'.lt, K16'.cell]; rfl
            have HV : Hid (∀ p : Since q.val.heap.size q.val, Calls Tryd.prog 16 #[m.val] p.val fun e w' => e = .returned (.bool true) ∧ Below p.val.heap.size p.val w') := fun p => cV p.val (S9.tab.then p.below)
            have z1 : (r.c.toList == r.c.toList) = true := by simp
            have z2 : (r.r.toList == r.r.toList) = true := by simp
            have z3 : (y.D.toList == y.D.toList) = true := by simp
            have z4 : (y.P.toList == y.P.toList) = true := by simp
            have z5 : (y.n == y.n) = true := by simp
            have z6 : ((m.D.size : Int) + (m.P.size : Int) == (m.D.size : Int) + (m.P.size : Int)) = true := by simp
            obtain rfl : k = m2.length := by omega
            clear hc1 hc3 hrd1 hrd2 cV K4 K5 K13 K16 K4' K5' K13' K16'
            go_wp2_with fail
            refine wp_region_since0 (by kernel_rfl) (by kernel_rfl) ?_
            repeat (any_goals (first | go_big_quiet_step ((go_at_call 16; refine calls_since (Nat.le_refl _) (HV.out _))) | (refine wpQuiet_step (fun K hK => ?_); go_simp; split <;> (refine hK _ ?_; clear hK K))))
            all_goals (refine wpQuiet_nil ?_; rintro _ ⟨q1, rfl⟩)
            go_wp2_with fail
            go_ret
            exact ⟨rfl, S9.bl.trans (q1.below.mono S9.bl.size)⟩
      · have hmL := HSame.out hco
        have hq : (co != 0) = true := by simpa using hco
        subst hmL
        have x1 : (m.D.toList == m.D.toList) = true := by simp
        have x2 : (m.P.toList == m.P.toList) = true := by simp
        have x3 : (m.n == m.n) = true := by simp
        clear HLaw HSame HRecs
        have n0 := K5.cell 0
        have n1 := K5.cell 1
        have n2 := K5.cell 2
        simp only [List.getElem?_cons_zero, List.getElem?_cons_succ] at n0 n1 n2
        have o0 := K3.cell 0
        have o1 := K3.cell 1
        have o2 := K3.cell 2
        simp only [List.getElem?_cons_zero, List.getElem?_cons_succ] at o0 o1 o2
        go_wp2_with fail
        go_ret
        exact ⟨rfl, S6.bl⟩
end Go.Proofs.YtojceibamgodbaaDoor

/- Arguments that came in: a slice of bytes. -/
namespace Go.Proofs.YtojceibamgodbaaDoor
open Go.ChangeShapes Go.WideShapes Go.ChangeAt Go.RowKit Go.Deep
section
variable {H : Type} {enc : TypeId × Value → H} {P : Program} {w : World} {base : Nat} {spare : Nat → Bool} {held : Bool}
theorem trod_u8 {t : TypeId} {n : Nat} {v : Value} {x : DataW H × List MemPlace} (ht : P.underlying t = some (.int .u8)) (h : DataW.trod enc P w base spare held n t [v] = some x) :
    ∃ b : UInt8, v = .int .u8 (b.toNat : Int) := by
  obtain ⟨m, e, _, hw⟩ := DataW.trod_int ht h
  have hb : 0 ≤ m ∧ m ≤ 255 := by
    simp [Lit.wf, IntKind.min, IntKind.max, IntKind.signed, IntKind.bits] at hw
    omega
  refine ⟨UInt8.ofNat m.toNat, ?_⟩
  have e' : v = .int .u8 m := by simpa using e
  rw [e']
  congr 1
  have : (UInt8.ofNat m.toNat).toNat = m.toNat := by
    rw [UInt8.toNat_ofNat']; omega
  rw [this]; omega
/-- A slice of bytes. -/
theorem open_bytes {t e : TypeId} {b0 : Nat} {r : Reach} {v : Value} {d : DataW H} {p : List MemPlace} (ht : P.underlying t = some (.slice e)) (he : P.underlying e = some (.int .u8)) (hC : P.cellsOf e = 1)
    (hv : Value.okWide P w r b0 t v) (h : DataW.Trod enc P w base spare held t v d p) : ∃ A c, ∃ l : List UInt8, v = .slice A l.length c ∧ BytesR w w.heap.size A l := by
  obtain ⟨A, len, cap, rfl⟩ := okWide_slice ht hv
  obtain ⟨n, hn⟩ := h
  obtain ⟨A', len', cap', e', css, hl, hS, hcs⟩ := trod_slc ht hC (by omega) hn
  injection e' with e1 e2 e3
  subst e1; subst e2; subst e3
  obtain ⟨l, hfl, hll⟩ := lift_list (fun b : UInt8 => [Value.int .u8 (b.toNat : Int)]) css (fun cs hc => by
    obtain ⟨hlen, m, y, hy⟩ := hcs cs hc
    obtain ⟨u, rfl⟩ : ∃ u, cs = [u] := by match cs, hlen with | [u], _ => exact ⟨u, rfl⟩
    obtain ⟨b, rfl⟩ := trod_u8 he hy
    exact ⟨b, rfl⟩)
  refine ⟨A, cap, l, by rw [hll, hl], ?_⟩
  rw [hfl] at hS
  have key : ∀ l : List UInt8, encBs l = l.flatMap (fun b : UInt8 => [Value.int .u8 (b.toNat : Int)]) := fun l => by
    induction l with
    | nil => rfl
    | cons a l ih => rw [List.flatMap_cons, ← ih]; rfl
  unfold BytesR
  rw [key, hll, hl]
  exact hS
end
end Go.Proofs.YtojceibamgodbaaDoor
