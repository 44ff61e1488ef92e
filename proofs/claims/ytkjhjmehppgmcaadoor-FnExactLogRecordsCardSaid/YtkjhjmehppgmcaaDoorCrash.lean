/- CrashLog: both sides and the law. -/
import Derived.Test.YtkjhjmehppgmcaaDoorLgTo
import Derived.Laws.IdiomStrings
namespace Go.Proofs.YtkjhjmehppgmcaaDoor
open Go.RowKit

/-- What is left of pending bytes. -/
def crashL (p : List UInt8) (k : Nat) (torn : Bool) : List UInt8 := if torn = true ∧ 0 < k then (p.take k).set (k - 1) (255 - (p.take k).getD (k - 1) 0) else p.take k
noncomputable def crashOk (l : Lg) (k : Int) : Bool := l.ok && inR k 0 l.P.size
noncomputable def crashT (l : Lg) (k : Int) (torn : Bool) : ByteArray := if crashOk l k then l.D ++ ⟨(crashL (bl l.P) k.toNat torn).toArray⟩ else ⟨#[]⟩
theorem u8_flip (b : UInt8) : ((255 - b).toNat : Int) = 255 - (b.toNat : Int) := by
  have h := UInt8.toNat_lt b
  have h2 : b ≤ 255 := by rw [UInt8.le_iff_toNat_le]; exact Nat.le_of_lt_succ h
  have : (255 - b).toNat = 255 - b.toNat := UInt8.toNat_sub_of_le 255 b h2
  rw [this]; omega

theorem toBytes (x : ByteArray) (w : World) : ∃ W3 cap, (convert 9 53 (.string x)).run Tryd.prog w = .ok (.slice (some ⟨w.heap.size, 0, none⟩) x.size cap) W3 ∧ Below w.heap.size w W3 ∧
    (∀ j, j < x.size → W3.cell? ⟨w.heap.size, j, none⟩ = some (.int .u8 (((bl x).getD j 0).toNat : Int))) ∧ (∀ j, j < x.size → W3.frozen? ⟨w.heap.size, j, none⟩ = false) := by
  refine ⟨_, _, run_bytes_of_string w 9 53 5 x Tryd.underlying9 Tryd.underlying53 Tryd.underlying5, (Below.refl w.heap.size w).drew.alloc (by simp) _, fun j hj => ?_, fun j hj => ?_⟩
  · have h1 := World.cell?_alloc_mark w.drew (bytesRow x (grownCap w x.size 0 5)) 5 ((bytesRow x (grownCap w x.size 0 5)).size, (bytesRow x (grownCap w x.size 0 5)).size + 1) j
    have e : w.drew.heap.size = w.heap.size := by simp
    rw [e] at h1
    rw [h1, bytesRow_at x _ j hj, getD_of (by rw [bl_size]; exact hj)]
    rfl
  · have h1 := World.frozen?_alloc_mark w.drew (bytesRow x (grownCap w x.size 0 5)) 5 (bytesRow x (grownCap w x.size 0 5)).size ((bytesRow x (grownCap w x.size 0 5)).size + 1) j
    have e : w.drew.heap.size = w.heap.size := by simp
    rw [e] at h1
    rw [h1]
    have hz : x.size ≤ (bytesRow x (grownCap w x.size 0 5)).size := by unfold bytesRow; simp <;> (show x.data.size ≤ _; exact Nat.le_add_right _ _)
    simp; omega

theorem fromBytes {W : World} {g : Nat} {l : List UInt8} {cap : Nat} (h : ∀ j, j < l.length → W.cell? ⟨g, j, none⟩ = some (.int .u8 ((l.getD j 0).toNat : Int))) :
    (convert 53 9 (.slice (some ⟨g, 0, none⟩) l.length cap)).run Tryd.prog W = .ok (.string ⟨l.toArray⟩) W :=
  run_convert_bytes_back W 53 9 5 ⟨g, 0, none⟩ cap l Tryd.underlying53 Tryd.underlying5 Tryd.underlying9 (fun j hj => by
    have e : (⟨g, 0, none⟩ : Addr).add j = ⟨g, j, none⟩ := by unfold Addr.add; simp <;> exact fun h => h.symm
    rw [e, h j hj, getD_of hj])

set_option maxRecDepth 100000 in
set_option maxHeartbeats 4000000 in
theorem specCrash_any (l : Lg) (k : Int) (torn : Bool) (w : World) (hs : l.D.size + l.P.size ≤ 2000000) :
    Calls Tryd.prog 25 #[l.val, .int .i64 k, .bool torn] w fun e w' => e = .returned (.tuple #[.string (crashT l k torn), .bool (crashOk l k)]) ∧ Below w.heap.size w w' := by
  have b1 := (Below.refl w.heap.size w).alloc (Nat.le_refl _) (.cells #[.string l.D, .string l.P, .int .i64 l.n] 31)
  have L1 := Lies.new w 31 #[.string l.D, .string l.P, .int .i64 l.n]
  go_enter Tryd.func25, Tryd.ntmps25
  go_wp2_with fail
  generalize w.alloc (.cells #[.string l.D, .string l.P, .int .i64 l.n] 31) = W at b1 L1 ⊢
  generalize hg : w.heap.size = g at L1 ⊢
  refine (l33Log_any l _ hs).mono ?_
  rintro e w2 ⟨rfl, hb2⟩
  have L2 := L1.below hb2 L1.lt
  have c0 := L2.cell 0
  have c1 := L2.cell 1
  have c2 := L2.cell 2
  simp only [List.getElem?_cons_zero, List.getElem?_cons_succ] at c0 c1 c2
  have hbb : Below w.heap.size w w2 := by rw [← hg] at *; exact bthen b1 hb2
  have HCr := Lib.hid (show crashOk l k = (l.ok && inR k 0 l.P.size) from rfl)
  cases hok : l.ok
  · have HK : Hid (crashOk l k = false) := by rw [HCr.out, hok]; rfl
    have HT : Hid (crashT l k torn = ⟨#[]⟩) := by unfold crashT Hid; rw [HK.out]; rfl
    clear hok HCr L1 L2
    go_wp2_with fail
    go_ret2
    exact ⟨by rw [HK.out, HT.out] <;> rfl, hbb⟩
  · cases hr : inR k 0 l.P.size
    · have HK : Hid (crashOk l k = false) := by rw [HCr.out, hok, hr]; rfl
      have HT : Hid (crashT l k torn = ⟨#[]⟩) := by unfold crashT Hid; rw [HK.out]; rfl
      have HR := Lib.hid hr
      clear hok hr HCr L1 L2
      go_wp2_with (go_at_call 48; refine (l1In_any _ _ _ _).mono ?_; rw [HR.out]; rintro en w' ⟨rfl, rfl⟩)
      go_ret2
      exact ⟨by rw [HK.out, HT.out] <;> rfl, hbb⟩
    · have HK : Hid (crashOk l k = true) := by rw [HCr.out, hok, hr]; rfl
      have HT0 : Hid (crashT l k torn = l.D ++ ⟨(crashL (bl l.P) k.toNat torn).toArray⟩) := by unfold crashT Hid; rw [HK.out]; rfl
      have HR := Lib.hid hr
      rw [inR_iff] at hr
      obtain ⟨n, rfl⟩ := Int.eq_ofNat_of_zero_le hr.1
      have hn : n ≤ l.P.size := by omega
      rw [Int.toNat_natCast] at HT0
      have i1 : (n : Int) ≤ (l.P.size : Int) := by omega
      have hxs : (l.P.extract 0 n).size = n := by rw [← bl_size, bl_extract, List.drop_zero, List.length_take, bl_size]; omega
      obtain ⟨x, hx⟩ : ∃ x : ByteArray, x = l.P.extract 0 n := ⟨_, rfl⟩
      have hbx : bl x = (bl l.P).take n := by rw [hx, bl_extract, List.drop_zero]
      rw [← hx] at hxs
      obtain ⟨W3, cap, hconv0, hbW3, hcell, hfr⟩ := toBytes x w2
      rw [hx] at hconv0
      have hxs' : (l.P.extract 0 n).size = n := by rw [← hx]; exact hxs
      rw [hxs'] at hconv0
      have hgl : g < w2.heap.size := L2.lt
      have c0' := (L2.below hbW3 L2.lt).cell 0
      have c1' := (L2.below hbW3 L2.lt).cell 1
      simp only [List.getElem?_cons_zero, List.getElem?_cons_succ] at c0' c1'
      generalize hgx : w2.heap.size = gx at hconv0 hcell hfr hgl
      have hne : g ≠ gx := by omega
      by_cases hlast : torn = true ∧ 0 < n
      · obtain ⟨rfl, h0⟩ := hlast
        have hL : crashL (bl l.P) n true = (bl x).set (n - 1) (255 - (bl x).getD (n - 1) 0) := by unfold crashL; rw [if_pos ⟨rfl, h0⟩, hbx]
        have hlen : (bl x).length = n := by rw [bl_size, hxs]
        have d1 : decide (0 < (n : Int)) = true := decide_eq_true (by omega)
        obtain ⟨m, rfl⟩ : ∃ m, n = m + 1 := ⟨n - 1, by omega⟩
        have HR2 : Hid (inR ((m : Int) + 1) 0 l.P.size = true) := HR.out
        have d3 : decide (0 < m + 1) = true := by simp
        have j1 : (m : Int) + 1 ≤ (l.P.size : Int) := by omega
        have d2 : decide (0 < (m : Int) + 1) = true := decide_eq_true (by omega)
        have hc := hcell m (by omega)
        have hf := hfr m (by omega)
        obtain ⟨b, hb⟩ : ∃ b, b = (bl x).getD m 0 := ⟨_, rfl⟩
        rw [← hb] at hc
        have ub : (b.toNat : Int) ≤ 255 := by have := UInt8.toNat_lt b; omega
        have hback0 := fromBytes (W := W3.setCell ⟨gx, m, none⟩ (.int .u8 (255 - (b.toNat : Int)))) (g := gx) (l := (bl x).set m (255 - b)) (cap := cap) (fun j hj => by
          rw [List.length_set] at hj
          by_cases hjm : j = m
          · subst hjm
            rw [World.cell?_setCell_same _ _ _ hc]
            rw [getD_of (by rw [List.length_set]; omega), List.getElem_set_self, u8_flip]
          · rw [World.cell?_setCell_other _ _ _ _ (by intro hc9; injection hc9 with _ hc8 _; omega), hcell j (by omega), getD_of (by omega), getD_of (by rw [List.length_set]; omega), List.getElem_set_ne (Ne.symm hjm)])
        rw [List.length_set, hlen] at hback0
        have HT : Hid (crashT l ((m + 1 : Nat) : Int) true = l.D ++ ⟨((bl x).set m (255 - b)).toArray⟩) := by rw [Hid, HT0.out, hL, hb]; first | done | rfl
        have hyz : (⟨((bl x).set m (255 - b)).toArray⟩ : ByteArray).size = m + 1 := by rw [← bl_size, bl_mk, List.length_set, hlen]
        have hfin : Below w.heap.size w (W3.setCell ⟨gx, m, none⟩ (.int .u8 (255 - (b.toNat : Int)))) := (hbb.trans (hbW3.mono hbb.size)).setCell (p := ⟨gx, m, none⟩) (by simp only; have := hbb.size; omega) _
        generalize (⟨((bl x).set m (255 - b)).toArray⟩ : ByteArray) = y at HT hyz hback0
        clear hok hr HCr L1 L2 HT0 hL hlen hbx hcell hfr hb hx hxs
        go_wp2_with (go_at_call 48; refine (l1In_any _ _ _ _).mono ?_; first | rw [HR.out] | rw [HR2.out]; rintro en w' ⟨rfl, rfl⟩)
        go_ret2
        exact ⟨by rw [HK.out, HT.out] <;> rfl, hfin⟩
      · have hL : crashL (bl l.P) n torn = bl x := by unfold crashL; rw [if_neg hlast, hbx]
        have hlen : (bl x).length = n := by rw [bl_size, hxs]
        have hback0 := fromBytes (W := W3) (g := gx) (l := bl x) (cap := cap) (fun j hj => hcell j (by omega))
        rw [hlen] at hback0
        have HT : Hid (crashT l (n : Int) torn = l.D ++ ⟨(bl x).toArray⟩) := by rw [Hid, HT0.out, hL]
        have hyz : (⟨(bl x).toArray⟩ : ByteArray).size = n := by rw [← bl_size, bl_mk, hlen]
        have hfin : Below w.heap.size w W3 := hbb.trans (hbW3.mono hbb.size)
        generalize (⟨(bl x).toArray⟩ : ByteArray) = y at HT hyz hback0
        clear hL hlen hbx hcell hfr hx hxs hok hr HCr L1 L2 HT0
        cases torn
        · go_wp2_with (go_at_call 48; refine (l1In_any _ _ _ _).mono ?_; rw [HR.out]; rintro en w' ⟨rfl, rfl⟩)
          go_ret2
          exact ⟨by rw [HK.out, HT.out] <;> rfl, hfin⟩
        · have h0 : n = 0 := by
            rcases Nat.eq_zero_or_pos n with h | h
            · exact h
            · exact absurd ⟨rfl, h⟩ hlast
          have d1 : decide (0 < (n : Int)) = false := decide_eq_false (by omega)
          have d2 : decide (0 < n) = false := decide_eq_false (by omega)
          clear hlast h0
          go_wp2_with (go_at_call 48; refine (l1In_any _ _ _ _).mono ?_; rw [HR.out]; rintro en w' ⟨rfl, rfl⟩)
          go_ret2
          exact ⟨by rw [HK.out, HT.out] <;> rfl, hfin⟩

set_option maxRecDepth 100000 in
set_option maxHeartbeats 4000000 in
theorem implCrash_any (l : Lg) (k : Int) (torn : Bool) (w : World) (hs : l.D.size + l.P.size ≤ 2000000) (ht : Tab w) :
    Calls Tryd.prog 26 #[l.val, .int .i64 k, .bool torn] w fun e w' => e = .returned (.tuple #[.string (crashT l k torn), .bool (crashOk l k)]) ∧ Below w.heap.size w w' := by
  have b1 := (Below.refl w.heap.size w).alloc (Nat.le_refl _) (.cells #[.string l.D, .string l.P, .int .i64 l.n] 31)
  have L1 := Lies.new w 31 #[.string l.D, .string l.P, .int .i64 l.n]
  have ht1 := ht.then b1
  go_enter Tryd.func26, Tryd.ntmps26
  go_wp2_with fail
  generalize w.alloc (.cells #[.string l.D, .string l.P, .int .i64 l.n] 31) = W at ht1 b1 L1 ⊢
  generalize hg : w.heap.size = g at L1 ⊢
  refine (isLog_any l _ hs ht1).mono ?_
  rintro e w2 ⟨rfl, hb2⟩
  have L2 := L1.below hb2 L1.lt
  have c0 := L2.cell 0
  have c1 := L2.cell 1
  have c2 := L2.cell 2
  simp only [List.getElem?_cons_zero, List.getElem?_cons_succ] at c0 c1 c2
  have hbb : Below w.heap.size w w2 := by rw [← hg] at *; exact bthen b1 hb2
  have HCr := Lib.hid (show crashOk l k = (l.ok && inR k 0 l.P.size) from rfl)
  cases hok : l.ok
  · have HK : Hid (crashOk l k = false) := by rw [HCr.out, hok]; rfl
    have HT : Hid (crashT l k torn = ⟨#[]⟩) := by unfold crashT Hid; rw [HK.out]; rfl
    clear hok HCr L1 L2
    go_wp2_with fail
    go_ret2
    exact ⟨by rw [HK.out, HT.out] <;> rfl, hbb⟩
  · cases hr : inR k 0 l.P.size
    · have HK : Hid (crashOk l k = false) := by rw [HCr.out, hok, hr]; rfl
      have HT : Hid (crashT l k torn = ⟨#[]⟩) := by unfold crashT Hid; rw [HK.out]; rfl
      have HR := Lib.hid hr
      clear hok hr HCr L1 L2
      go_wp2_with (go_at_call 51; refine (inRange_any _ _ _ _).mono ?_; rw [HR.out]; rintro en w' ⟨rfl, rfl⟩)
      go_ret2
      exact ⟨by rw [HK.out, HT.out] <;> rfl, hbb⟩
    · have HK : Hid (crashOk l k = true) := by rw [HCr.out, hok, hr]; rfl
      have HT0 : Hid (crashT l k torn = l.D ++ ⟨(crashL (bl l.P) k.toNat torn).toArray⟩) := by unfold crashT Hid; rw [HK.out]; rfl
      have HR := Lib.hid hr
      rw [inR_iff] at hr
      obtain ⟨n, rfl⟩ := Int.eq_ofNat_of_zero_le hr.1
      have hn : n ≤ l.P.size := by omega
      rw [Int.toNat_natCast] at HT0
      have i1 : (n : Int) ≤ (l.P.size : Int) := by omega
      have hxs : (l.P.extract 0 n).size = n := by rw [← bl_size, bl_extract, List.drop_zero, List.length_take, bl_size]; omega
      obtain ⟨x, hx⟩ : ∃ x : ByteArray, x = l.P.extract 0 n := ⟨_, rfl⟩
      have hbx : bl x = (bl l.P).take n := by rw [hx, bl_extract, List.drop_zero]
      rw [← hx] at hxs
      obtain ⟨W3, cap, hconv0, hbW3, hcell, hfr⟩ := toBytes x w2
      rw [hx] at hconv0
      have hxs' : (l.P.extract 0 n).size = n := by rw [← hx]; exact hxs
      rw [hxs'] at hconv0
      have hgl : g < w2.heap.size := L2.lt
      have c0' := (L2.below hbW3 L2.lt).cell 0
      have c1' := (L2.below hbW3 L2.lt).cell 1
      simp only [List.getElem?_cons_zero, List.getElem?_cons_succ] at c0' c1'
      generalize hgx : w2.heap.size = gx at hconv0 hcell hfr hgl
      have hne : g ≠ gx := by omega
      by_cases hlast : torn = true ∧ 0 < n
      · obtain ⟨rfl, h0⟩ := hlast
        have hL : crashL (bl l.P) n true = (bl x).set (n - 1) (255 - (bl x).getD (n - 1) 0) := by unfold crashL; rw [if_pos ⟨rfl, h0⟩, hbx]
        have hlen : (bl x).length = n := by rw [bl_size, hxs]
        have d1 : decide (0 < (n : Int)) = true := decide_eq_true (by omega)
        obtain ⟨m, rfl⟩ : ∃ m, n = m + 1 := ⟨n - 1, by omega⟩
        have HR2 : Hid (inR ((m : Int) + 1) 0 l.P.size = true) := HR.out
        have d3 : decide (0 < m + 1) = true := by simp
        have j1 : (m : Int) + 1 ≤ (l.P.size : Int) := by omega
        have d2 : decide (0 < (m : Int) + 1) = true := decide_eq_true (by omega)
        have hc := hcell m (by omega)
        have hf := hfr m (by omega)
        obtain ⟨b, hb⟩ : ∃ b, b = (bl x).getD m 0 := ⟨_, rfl⟩
        rw [← hb] at hc
        have ub : (b.toNat : Int) ≤ 255 := by have := UInt8.toNat_lt b; omega
        have hback0 := fromBytes (W := W3.setCell ⟨gx, m, none⟩ (.int .u8 (255 - (b.toNat : Int)))) (g := gx) (l := (bl x).set m (255 - b)) (cap := cap) (fun j hj => by
          rw [List.length_set] at hj
          by_cases hjm : j = m
          · subst hjm
            rw [World.cell?_setCell_same _ _ _ hc]
            rw [getD_of (by rw [List.length_set]; omega), List.getElem_set_self, u8_flip]
          · rw [World.cell?_setCell_other _ _ _ _ (by intro hc9; injection hc9 with _ hc8 _; omega), hcell j (by omega), getD_of (by omega), getD_of (by rw [List.length_set]; omega), List.getElem_set_ne (Ne.symm hjm)])
        rw [List.length_set, hlen] at hback0
        have HT : Hid (crashT l ((m + 1 : Nat) : Int) true = l.D ++ ⟨((bl x).set m (255 - b)).toArray⟩) := by rw [Hid, HT0.out, hL, hb]; first | done | rfl
        have hyz : (⟨((bl x).set m (255 - b)).toArray⟩ : ByteArray).size = m + 1 := by rw [← bl_size, bl_mk, List.length_set, hlen]
        have hfin : Below w.heap.size w (W3.setCell ⟨gx, m, none⟩ (.int .u8 (255 - (b.toNat : Int)))) := (hbb.trans (hbW3.mono hbb.size)).setCell (p := ⟨gx, m, none⟩) (by simp only; have := hbb.size; omega) _
        generalize (⟨((bl x).set m (255 - b)).toArray⟩ : ByteArray) = y at HT hyz hback0
        clear hok hr HCr L1 L2 HT0 hL hlen hbx hcell hfr hb hx hxs
        go_wp2_with (go_at_call 51; refine (inRange_any _ _ _ _).mono ?_; first | rw [HR.out] | rw [HR2.out]; rintro en w' ⟨rfl, rfl⟩)
        go_ret2
        exact ⟨by rw [HK.out, HT.out] <;> rfl, hfin⟩
      · have hL : crashL (bl l.P) n torn = bl x := by unfold crashL; rw [if_neg hlast, hbx]
        have hlen : (bl x).length = n := by rw [bl_size, hxs]
        have hback0 := fromBytes (W := W3) (g := gx) (l := bl x) (cap := cap) (fun j hj => hcell j (by omega))
        rw [hlen] at hback0
        have HT : Hid (crashT l (n : Int) torn = l.D ++ ⟨(bl x).toArray⟩) := by rw [Hid, HT0.out, hL]
        have hyz : (⟨(bl x).toArray⟩ : ByteArray).size = n := by rw [← bl_size, bl_mk, hlen]
        have hfin : Below w.heap.size w W3 := hbb.trans (hbW3.mono hbb.size)
        generalize (⟨(bl x).toArray⟩ : ByteArray) = y at HT hyz hback0
        clear hL hlen hbx hcell hfr hx hxs hok hr HCr L1 L2 HT0
        cases torn
        · go_wp2_with (go_at_call 51; refine (inRange_any _ _ _ _).mono ?_; rw [HR.out]; rintro en w' ⟨rfl, rfl⟩)
          go_ret2
          exact ⟨by rw [HK.out, HT.out] <;> rfl, hfin⟩
        · have h0 : n = 0 := by
            rcases Nat.eq_zero_or_pos n with h | h
            · exact h
            · exact absurd ⟨rfl, h⟩ hlast
          have d1 : decide (0 < (n : Int)) = false := decide_eq_false (by omega)
          have d2 : decide (0 < n) = false := decide_eq_false (by omega)
          clear hlast h0
          go_wp2_with (go_at_call 51; refine (inRange_any _ _ _ _).mono ?_; rw [HR.out]; rintro en w' ⟨rfl, rfl⟩)
          go_ret2
          exact ⟨by rw [HK.out, HT.out] <;> rfl, hfin⟩

set_option maxRecDepth 100000 in
set_option maxHeartbeats 1000000 in
set_option linter.unusedVariables false in
theorem lawCrashLog_any (l : Lg) (k : Int) (hk : -9223372036854775808 ≤ k) (hk' : k ≤ 9223372036854775807) (torn : Bool) (w : World) (h1 : l.D.size ≤ 9223372036854775807) (h2 : l.P.size ≤ 9223372036854775807) (h3 : -9223372036854775808 ≤ l.n) (h4 : l.n ≤ 9223372036854775807) (ht : Tab w) :
    Calls Tryd.prog 6 #[l.val, .int .i64 k, .bool torn] w fun en w' => en = .returned (.bool true) ∧ Below w.heap.size w w' := by
  have b1 := (Below.refl w.heap.size w).alloc (Nat.le_refl _) (.cells #[.string l.D, .string l.P, .int .i64 l.n] 36)
  have L1 := Lies.new w 36 #[.string l.D, .string l.P, .int .i64 l.n]
  have ht1 := ht.then b1
  by_cases hbig : (l.need : Int) ≤ 1048576
  · have HS := Lib.hid (lessR_le hbig)
    have hs : l.D.size + l.P.size ≤ 2000000 := by unfold Lg.need at hbig; omega
    have hn0 : decide ((1048576 : Int) - (l.need : Int) < 0) = false := decide_eq_false (by omega)
    have cS := fun W => specCrash_any l k torn W hs
    have cI := fun W hW => implCrash_any l k torn W hs hW
    generalize crashT l k torn = x at cS cI
    generalize crashOk l k = ok at cS cI
    have hbo : (ok != ok) = false := by simp
    have hbx : (x.toList != x.toList) = false := by simp
    clear hbig
    go_enter Tryd.func6, Tryd.ntmps6
    go_wp2_with fail
    generalize w.alloc (.cells #[.string l.D, .string l.P, .int .i64 l.n] 36) = W at b1 L1 ht1 ⊢
    generalize hg : w.heap.size = g at L1 ⊢
    refine (szLog_any l _ _ h1 h2 (by omega) (by omega)).mono ?_
    rintro en w1 ⟨rfl, hb1⟩
    rw [HS.out]
    have M1 := L1.below hb1 L1.lt
    have c0 := M1.cell 0
    have c1 := M1.cell 1
    have c2 := M1.cell 2
    simp only [List.getElem?_cons_zero, List.getElem?_cons_succ] at c0 c1 c2
    go_wp2_with fail
    refine (toLog_any l _).mono ?_
    rintro en w2 ⟨rfl, hb2⟩
    have M2 := M1.below hb2 M1.lt
    go_wp2_with fail
    refine (cS _).mono ?_
    rintro en w3 ⟨rfl, hb3⟩
    have M3 := M2.below hb3 M2.lt
    clear c0 c1 c2
    have c0 := M3.cell 0
    have c1 := M3.cell 1
    have c2 := M3.cell 2
    simp only [List.getElem?_cons_zero, List.getElem?_cons_succ] at c0 c1 c2
    have ht3 := ((ht1.then hb1).then hb2).then hb3
    go_wp2_with fail
    refine (toLog_any l _).mono ?_
    rintro en w4 ⟨rfl, hb4⟩
    go_wp2_with fail
    refine (cI _ (ht3.then hb4)).mono ?_
    rintro en w5 ⟨rfl, hb5⟩
    go_wp2
    go_ret
    exact ⟨rfl, by rw [← hg] at *; exact bthen b1 (bthen hb1 (bthen hb2 (bthen hb3 (bthen hb4 hb5))))⟩
  · have HS := Lib.hid (lessR_gt hbig)
    clear hbig
    go_enter Tryd.func6, Tryd.ntmps6
    go_wp2_with fail
    refine (szLog_any l _ _ h1 h2 (by omega) (by omega)).mono ?_
    rintro en w1 ⟨rfl, hb1⟩
    rw [HS.out]
    go_wp2
    go_ret
    exact ⟨rfl, bthen b1 hb1⟩

end Go.Proofs.YtkjhjmehppgmcaaDoor
