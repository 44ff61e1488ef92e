/- Lg05: the texts Sync DrawLog DrawLog2 DrawLog3 LogApp LogPre Recover MarkT RecMark, joined into one file. -/
import Derived.Test.YtojceibamgodbaaDoorLg02
import Derived.Test.YtojceibamgodbaaDoorLg04

set_option linter.unusedVariables false

/- SyncLog: both sides and the law. -/
namespace Go.Proofs.YtojceibamgodbaaDoor
open Go.RowKit

noncomputable def syncLg (l : Lg) : Lg := if l.ok then ⟨l.D ++ l.P, ⟨#[]⟩, l.n⟩ else ⟨⟨#[]⟩, ⟨#[]⟩, 0⟩

set_option maxRecDepth 100000 in
set_option maxHeartbeats 2000000 in
theorem specSync_any (l : Lg) (w : World) (hs : l.D.size + l.P.size ≤ 2000000) :
    Calls Tryd.prog 85 #[l.val] w fun e w' => e = .returned (.tuple #[(syncLg l).val, .bool l.ok]) ∧ Below w.heap.size w w' := by
  have b1 := ((Below.refl w.heap.size w).alloc (Nat.le_refl _) (.cells #[.string l.D, .string l.P, .int .i64 l.n] 36)).alloc (by simp) (.cells #[.string ⟨#[]⟩, .string ⟨#[]⟩, .int .i64 0] 36)
  have L1 := (Lies.new w 36 #[.string l.D, .string l.P, .int .i64 l.n]).alloc (.cells #[.string ⟨#[]⟩, .string ⟨#[]⟩, .int .i64 0] 36)
  have N1 := Lies.new (w.alloc (.cells #[.string l.D, .string l.P, .int .i64 l.n] 36)) 36 #[.string ⟨#[]⟩, .string ⟨#[]⟩, .int .i64 0]
  have hz : (l.D ++ l.P).size = l.D.size + l.P.size := size_app _ _
  have HOk : Hid (syncLg l = if l.ok then ⟨l.D ++ l.P, ⟨#[]⟩, l.n⟩ else ⟨⟨#[]⟩, ⟨#[]⟩, 0⟩) := rfl
  go_enter Tryd.func85, Tryd.ntmps85
  go_wp2_with fail
  have hgg : (w.alloc (.cells #[.string l.D, .string l.P, .int .i64 l.n] 36)).heap.size = w.heap.size + 1 := by simp
  generalize (w.alloc (.cells #[.string l.D, .string l.P, .int .i64 l.n] 36)).alloc (.cells #[.string ⟨#[]⟩, .string ⟨#[]⟩, .int .i64 0] 36) = W at  b1 L1 N1 ⊢
  rw [hgg] at N1
  generalize hg : w.heap.size = g at L1 N1 ⊢
  refine (l33Log_any l _ hs).mono ?_
  rintro e w2 ⟨rfl, hb2⟩
  have L2 := L1.below hb2 L1.lt
  have N2 := N1.below hb2 N1.lt
  have c0 := L2.cell 0
  have c1 := L2.cell 1
  have c2 := L2.cell 2
  have n0 := N2.cell 0
  have n1 := N2.cell 1
  have n2 := N2.cell 2
  have f0 := N2.frozen 0
  have f1 := N2.frozen 1
  have f2 := N2.frozen 2
  have hgl := L2.lt
  have hnl := N2.lt
  simp only [List.getElem?_cons_zero, List.getElem?_cons_succ] at c0 c1 c2 n0 n1 n2
  have hbb : Below w.heap.size w w2 := by rw [← hg] at *; exact bthen b1 hb2
  clear L1 L2 N1 N2
  cases hok : l.ok
  · have HV : Hid (syncLg l = ⟨⟨#[]⟩, ⟨#[]⟩, 0⟩) := by rw [HOk.out, hok]; rfl
    have HK := Lib.hid hok
    clear hok HOk
    go_wp2_with fail
    refine bodyPost_ret (v := .tuple #[.agg #[.string ⟨#[]⟩, .string ⟨#[]⟩, .int .i64 0], .bool false]) (by simp [results, Tryd.results85, go_sem, *]) rfl ⟨by rw [HK.out, HV.out], ?_⟩
    refine hbb.trans ?_
    repeat (first | exact Below.refl _ _ | refine Below.setCell ?_ (by simp; omega) _)
  · have HV : Hid (syncLg l = ⟨l.D ++ l.P, ⟨#[]⟩, l.n⟩) := by rw [HOk.out, hok]; rfl
    have HK := Lib.hid hok
    clear hok HOk
    go_wp2_with fail
    refine bodyPost_ret (v := .tuple #[.agg #[.string (l.D ++ l.P), .string ⟨#[]⟩, .int .i64 l.n], .bool true]) (by simp [results, Tryd.results85, go_sem, *]) rfl ⟨by rw [HK.out, HV.out], ?_⟩
    refine hbb.trans ?_
    repeat (first | exact Below.refl _ _ | refine Below.setCell ?_ (by simp; omega) _)

set_option maxRecDepth 100000 in
set_option maxHeartbeats 2000000 in
theorem implSync_any (l : Lg) (w : World) (hs : l.D.size + l.P.size ≤ 2000000) (ht : Tab w) :
    Calls Tryd.prog 22 #[l.val] w fun e w' => e = .returned (.tuple #[(syncLg l).val, .bool l.ok]) ∧ Below w.heap.size w w' := by
  have b1 := ((Below.refl w.heap.size w).alloc (Nat.le_refl _) (.cells #[.string l.D, .string l.P, .int .i64 l.n] 36)).alloc (by simp) (.cells #[.string ⟨#[]⟩, .string ⟨#[]⟩, .int .i64 0] 36)
  have L1 := (Lies.new w 36 #[.string l.D, .string l.P, .int .i64 l.n]).alloc (.cells #[.string ⟨#[]⟩, .string ⟨#[]⟩, .int .i64 0] 36)
  have N1 := Lies.new (w.alloc (.cells #[.string l.D, .string l.P, .int .i64 l.n] 36)) 36 #[.string ⟨#[]⟩, .string ⟨#[]⟩, .int .i64 0]
  have ht1 := ht.then b1
  have hz : (l.D ++ l.P).size = l.D.size + l.P.size := size_app _ _
  have HOk : Hid (syncLg l = if l.ok then ⟨l.D ++ l.P, ⟨#[]⟩, l.n⟩ else ⟨⟨#[]⟩, ⟨#[]⟩, 0⟩) := rfl
  go_enter Tryd.func22, Tryd.ntmps22
  go_wp2_with fail
  have hgg : (w.alloc (.cells #[.string l.D, .string l.P, .int .i64 l.n] 36)).heap.size = w.heap.size + 1 := by simp
  generalize (w.alloc (.cells #[.string l.D, .string l.P, .int .i64 l.n] 36)).alloc (.cells #[.string ⟨#[]⟩, .string ⟨#[]⟩, .int .i64 0] 36) = W at ht1 b1 L1 N1 ⊢
  rw [hgg] at N1
  generalize hg : w.heap.size = g at L1 N1 ⊢
  refine (isLog_any l _ hs ht1).mono ?_
  rintro e w2 ⟨rfl, hb2⟩
  have L2 := L1.below hb2 L1.lt
  have N2 := N1.below hb2 N1.lt
  have c0 := L2.cell 0
  have c1 := L2.cell 1
  have c2 := L2.cell 2
  have n0 := N2.cell 0
  have n1 := N2.cell 1
  have n2 := N2.cell 2
  have f0 := N2.frozen 0
  have f1 := N2.frozen 1
  have f2 := N2.frozen 2
  have hgl := L2.lt
  have hnl := N2.lt
  simp only [List.getElem?_cons_zero, List.getElem?_cons_succ] at c0 c1 c2 n0 n1 n2
  have hbb : Below w.heap.size w w2 := by rw [← hg] at *; exact bthen b1 hb2
  clear L1 L2 N1 N2
  cases hok : l.ok
  · have HV : Hid (syncLg l = ⟨⟨#[]⟩, ⟨#[]⟩, 0⟩) := by rw [HOk.out, hok]; rfl
    have HK := Lib.hid hok
    clear hok HOk
    go_wp2_with fail
    refine bodyPost_ret (v := .tuple #[.agg #[.string ⟨#[]⟩, .string ⟨#[]⟩, .int .i64 0], .bool false]) (by simp [results, Tryd.results22, go_sem, *]) rfl ⟨by rw [HK.out, HV.out], ?_⟩
    refine hbb.trans ?_
    repeat (first | exact Below.refl _ _ | refine Below.setCell ?_ (by simp; omega) _)
  · have HV : Hid (syncLg l = ⟨l.D ++ l.P, ⟨#[]⟩, l.n⟩) := by rw [HOk.out, hok]; rfl
    have HK := Lib.hid hok
    clear hok HOk
    go_wp2_with fail
    refine bodyPost_ret (v := .tuple #[.agg #[.string (l.D ++ l.P), .string ⟨#[]⟩, .int .i64 l.n], .bool true]) (by simp [results, Tryd.results22, go_sem, *]) rfl ⟨by rw [HK.out, HV.out], ?_⟩
    refine hbb.trans ?_
    repeat (first | exact Below.refl _ _ | refine Below.setCell ?_ (by simp; omega) _)

end Go.Proofs.YtojceibamgodbaaDoor

/- The reference draws a log. (Printed by gen_dlog.py) -/
namespace Go.Proofs.YtojceibamgodbaaDoor
open Go.RowKit

/-- A log of modest size. -/
def LgW (k : Nat) (l : Lg) : Prop := l.D.size + l.P.size ≤ 410 * k ∧ 0 ≤ l.n ∧ l.n ≤ 60
theorem LgW.zero : LgW 0 ⟨⟨#[]⟩, ⟨#[]⟩, 0⟩ := ⟨by decide, by decide, by decide⟩
theorem LgW.mono {k k' : Nat} {l : Lg} (h : LgW k l) (hk : k ≤ k') : LgW k' l := ⟨by have := h.1; omega, h.2⟩
theorem LgW.app {k : Nat} {l : Lg} (h : LgW k l) (e : Rec) : LgW (k + 1) (appLg l e) := by
  obtain ⟨h1, h2, h3⟩ := h
  cases hok : (l.ok && e.ok) with
  | false => rw [(appLg_no hok).1]; exact ⟨by omega, h2, h3⟩
  | true =>
    by_cases hn : l.n = 60
    · rw [(appLg_full hok hn).1]; exact ⟨by omega, h2, h3⟩
    · rw [(appLg_yes hok hn).1]
      rw [Bool.and_eq_true] at hok
      have hl := line_len (k := l.n.toNat) (show recOk (bl e.c) (bl e.r) = true from hok.2) (by omega)
      refine ⟨?_, by simp only; omega, by simp only; omega⟩
      simp only [size_app]
      have : (⟨(lineL l.n.toNat (bl e.c) (bl e.r)).toArray⟩ : ByteArray).size = (lineL l.n.toNat (bl e.c) (bl e.r)).length := by simp [ByteArray.size]
      omega
theorem LgW.sync {k : Nat} {l : Lg} (h : LgW k l) : LgW k (syncLg l) := by
  unfold syncLg
  split
  · refine ⟨?_, h.2⟩
    simp only [size_app]
    have h0 : (⟨#[]⟩ : ByteArray).size = 0 := rfl
    have := h.1; omega
  · exact LgW.zero.mono (Nat.zero_le _)
theorem setLog_is {W : World} {g : Nat} {a b c : Value} (h : Lies W g 36 [a, b, c]) (x y z : Value) : Lies (((W.setCell ⟨g, 0, none⟩ x).setCell ⟨g, 1, none⟩ y).setCell ⟨g, 2, none⟩ z) g 36 [x, y, z] := by
  have := ((h.set 0 x).set 1 y).set 2 z
  simpa using this
theorem setLog_gr (W : World) (g : Nat) (x y z : Value) : W.grownBy (((W.setCell ⟨g, 0, none⟩ x).setCell ⟨g, 1, none⟩ y).setCell ⟨g, 2, none⟩ z) (some g) := grown_set (grown_set (grown_set (World.grownBy.refl W (some g))))
/-- The log drawn so far, in its variable. -/
structure LSt (w W wx : World) (g : Nat) (A : Option Addr) (bs : List UInt8) (cap m gl k : Nat) (l : Lg) : Prop where
  env : Env w wx g A bs cap m
  lies : Lies wx gl 36 [.string l.D, .string l.P, .int .i64 l.n]
  gr : W.grownBy wx (some g)
  sz : LgW k l
section
variable {w W wx wy : World} {g : Nat} {A : Option Addr} {bs : List UInt8} {cap m m' gl k k' : Nat} {l l' : Lg}
theorem LSt.mono (h : LSt w W wx g A bs cap m gl k l) (hm : m ≤ m') (hk : k ≤ k') : LSt w W wx g A bs cap m' gl k' l := ⟨h.env.mono hm, h.lies, h.gr, h.sz.mono hk⟩
theorem LSt.next (h : LSt w W wx g A bs cap m gl k l) (E : Env w wy g A bs cap m') (hg : wx.grownBy wy (some g)) (hB : gl ≠ g) : LSt w W wy g A bs cap m' gl k l := ⟨E, h.lies.kept hg (by intro e; injection e with e; exact hB e), grown_trans h.gr hg, h.sz⟩
theorem LSt.below (h : LSt w W wx g A bs cap m gl k l) (hb : Below wx.heap.size wx wy) : LSt w W wy g A bs cap m gl k l := ⟨h.env.below hb, h.lies.below hb h.lies.lt, grown_trans h.gr (grownAny hb _), h.sz⟩
theorem LSt.store (h : LSt w W wx g A bs cap m gl k l) (hg : g < gl) (hw : w.heap.size ≤ gl) (hW : W.heap.size ≤ gl) (hs : LgW k' l') :
    LSt w W (((wx.setCell ⟨gl, 0, none⟩ (.string l'.D)).setCell ⟨gl, 1, none⟩ (.string l'.P)).setCell ⟨gl, 2, none⟩ (.int .i64 l'.n)) g A bs cap m gl k' l' :=
  ⟨h.env.wrote (setLog_gr _ _ _ _ _) hw hg, setLog_is h.lies _ _ _, grown_own h.gr (setLog_gr _ _ _ _ _) hW, hs⟩
end

set_option maxRecDepth 100000 in
set_option maxHeartbeats 4000000 in
set_option linter.unusedVariables false in
theorem log_any (g : Nat) (A : Option Addr) (bs : List UInt8) (cap m : Nat) (w W : World) (hm : m ≤ 700000000) (E0 : Env w W g A bs cap m) :
    Calls Tryd.prog 55 #[.pointer (some ⟨g, 0, none⟩)] W fun e w' => ∃ l : Lg, e = .returned l.val ∧ LgW 6 l ∧ Env w w' g A bs cap (m + 1000) ∧ W.grownBy w' (some g) := by
  have hgW := E0.lt
  have hwW := E0.gr.size
  go_enter Tryd.func55, Tryd.ntmps55
  go_wp2_with fail
  have E1 := (E0.alloc (.cells #[.string ⟨#[]⟩, .string ⟨#[]⟩, .int .i64 0] 36)).alloc (.cells #[.string ⟨#[]⟩, .string ⟨#[]⟩, .int .i64 0] 36)
  have L4 := (Lies.new W 36 #[.string ⟨#[]⟩, .string ⟨#[]⟩, .int .i64 0]).alloc (.cells #[.string ⟨#[]⟩, .string ⟨#[]⟩, .int .i64 0] 36)
  have L5 := Lies.newB W (.cells #[.string ⟨#[]⟩, .string ⟨#[]⟩, .int .i64 0] 36) 36 #[.string ⟨#[]⟩, .string ⟨#[]⟩, .int .i64 0]
  have G1 := grown_trans (World.grownBy_alloc W (.cells #[.string ⟨#[]⟩, .string ⟨#[]⟩, .int .i64 0] 36) (some g)) (World.grownBy_alloc _ (.cells #[.string ⟨#[]⟩, .string ⟨#[]⟩, .int .i64 0] 36) (some g))
  generalize (W.alloc (.cells #[.string ⟨#[]⟩, .string ⟨#[]⟩, .int .i64 0] 36)).alloc (.cells #[.string ⟨#[]⟩, .string ⟨#[]⟩, .int .i64 0] 36) = W1 at E1 L4 L5 G1 ⊢
  obtain ⟨g4, hg4⟩ : ∃ g4, W.heap.size = g4 := ⟨_, rfl⟩
  have h4 : g < g4 ∧ w.heap.size ≤ g4 := by omega
  rw [hg4] at L4 L5
  rw [hg4]
  have hW4 : W.heap.size ≤ g4 := by omega
  clear hg4 hgW hwW
  refine (pick_env E1 7 (by omega) (by omega)).mono ?_
  rintro e W3 ⟨n, rfl, hn, E3, gr⟩
  replace L4 := L4.kept gr (by intro e; injection e; omega)
  have St : LSt w W W3 g A bs cap (m + 10 + 100 * (6 - n)) (g4 + 1) (6 - n) ⟨⟨#[]⟩, ⟨#[]⟩, 0⟩ := ⟨E3.mono (by omega), L5.kept gr (by intro e; injection e; omega), grown_trans G1 gr, LgW.zero.mono (Nat.zero_le _)⟩
  have HS := Lib.hid St
  have HL4 := Lib.hid L4
  clear St E3 gr L4 L5 G1 E1 E0
  go_wp2_with fail
  go_loopw [4] (fun i wr => ∃ (k : Nat) (l : Lg), k ≤ 6 ∧ i = .int .i64 k ∧ Hid (LSt w W wr g A bs cap (m + 10 + 100 * (6 - k)) (g4 + 1) (6 - k) l) ∧ Hid (Lies wr g4 36 [.string ⟨#[]⟩, .string ⟨#[]⟩, .int .i64 0])) (fun i _ => (intOf i).toNat)
  case atStart => exact ⟨n, _, by omega, rfl, HS, HL4⟩
  case round =>
    clear HS HL4 hn
    obtain ⟨k, l, hk, rfl, HS, HL4⟩ := hrel
    by_cases hlt : 0 < k
    · obtain ⟨k, rfl⟩ : ∃ q, k = q + 1 := ⟨k - 1, by omega⟩
      clear hlt
      have hi0 : (0 : Int) < ((k + 1 : Nat) : Int) := by omega
      have K5 := HS.out.lies
      have E5 := HS.out.env
      have HSZ := Lib.hid HS.out.sz
      have HR0 : Hid (∀ p ∈ [Room.lies 7 (g4 + 1) 36 [.string l.D, .string l.P, .int .i64 l.n]], p.blk ≠ some g ∧ p.P wr) := by
        intro p hp
        simp only [List.mem_cons, List.not_mem_nil, or_false] at hp
        subst hp
        exact ⟨by intro e; injection e; omega, K5⟩
      go_upto_region 5 with fail
      refine wp_region_factsR (Dr w wr g A bs cap (m + 10 + 100 * (6 - (k + 1))) 8 8 [g, g4 + 1] [Room.lies 7 (g4 + 1) 36 [.string l.D, .string l.P, .int .i64 l.n]]) (fun i w1 w2 => i ∉ [7] → w1.grownBy w2 (some g)) (by kernel_rfl) (by kernel_rfl) (by kernel_rfl) (Dr.start E5 HR0.out) ?_
      simp only [fillOps, Act.put, List.setIfInBounds_toArray, List.set_cons_zero, List.set_cons_succ, Nat.zero_add, Nat.reduceAdd]
      apply wpFactsR_val
      case h1 =>
        intro vs L9 w9 hG9 hC9 hB K9 hK9
        have q0 : w9.cell? ⟨g4 + 1, 0, none⟩ = some (.string l.D) := ((hC9.room (Room.lies 7 (g4 + 1) 36 [.string l.D, .string l.P, .int .i64 l.n]) (by simp)).2 (hG9.open_ 7 (by kernel_rfl))).cell 0
        have q1 : w9.cell? ⟨g4 + 1, 1, none⟩ = some (.string l.P) := ((hC9.room (Room.lies 7 (g4 + 1) 36 [.string l.D, .string l.P, .int .i64 l.n]) (by simp)).2 (hG9.open_ 7 (by kernel_rfl))).cell 1
        have q2 : w9.cell? ⟨g4 + 1, 2, none⟩ = some (.int .i64 l.n) := ((hC9.room (Room.lies 7 (g4 + 1) 36 [.string l.D, .string l.P, .int .i64 l.n]) (by simp)).2 (hG9.open_ 7 (by kernel_rfl))).cell 2
        simp only [Act.put, List.setIfInBounds_toArray, List.set_cons_zero, List.set_cons_succ] at hK9
        go_simp
        exact hK9 _ _ rfl (hC9.stay hG9.self (by decide)) (fun _ => World.grownBy.refl _ _)
      apply wpFactsR_val
      case h1 =>
        intro vs L9 w9 hG9 hC9 hB K9 hK9
        simp only [Act.put, List.setIfInBounds_toArray, List.set_cons_zero, List.set_cons_succ] at hK9
        go_simp
        exact hK9 _ _ rfl (hC9.stay hG9.self (by decide)) (fun _ => World.grownBy.refl _ _)
      refine wpFactsR_some [] (fun v _ => ∃ r : Rec, v = r.val ∧ (r.c.size ≤ 20 ∧ r.r.size ≤ 20)) ?_ (fun vs L9 w9 hG9 hC9 hB K9 hK9 => ?_) ?_
      next =>
        intro i9 hi9 hb9 ha9 v w1 w2 hv hT9
        exact hv
      next =>
        have d1 := FactN.eq (hB 1 _ (by kernel_rfl) (by kernel_rfl) rfl (by decide))
        simp only [d1] at hK9 ⊢
        simp only [Act.put, List.setIfInBounds_toArray, List.set_cons_zero, List.set_cons_succ] at hK9
        go_simp
        refine (logRecord_any g A bs cap _ w w9 (by have := hC9.cnt; omega) hC9.env).mono ?_
        rintro en w8 ⟨r8, rfl, hr8, hE8, hg8⟩
        exact hK9 _ _ _ rfl ⟨r8, rfl, hr8⟩ (hC9.call hG9.self (by decide) hE8 (by have := hC9.cnt; omega) hg8 (by simp)) (fun _ => hg8)
      refine wpFactsR_some [] (fun v _ => ∃ (l2 : Lg) (c : Int), v = .tuple #[l2.val, .int .i64 c] ∧ LgW (6 - k) l2) ?_ (fun vs L9 w9 hG9 hC9 hB K9 hK9 => ?_) ?_
      next =>
        intro i9 hi9 hb9 ha9 v w1 w2 hv hT9
        exact hv
      next =>
        have d0 := FactN.eq (hB 0 _ (by kernel_rfl) (by kernel_rfl) rfl (by decide))
        simp only [d0] at hK9 ⊢
        simp only [Act.put, List.setIfInBounds_toArray, List.set_cons_zero, List.set_cons_succ] at hK9
        obtain ⟨r2, e2, er2⟩ := hB 2 _ (by kernel_rfl) (by kernel_rfl) rfl (by decide)
        simp only [e2] at hK9 ⊢
        have hw8 : LgW (6 - k) (appLg l r2) := (HSZ.out.app r2).mono (by omega)
        have hs8 := HSZ.out.1
        go_simp
        refine (specAppend_any l r2 w9 (by omega) (by omega) (by omega)).mono ?_
        rintro en w8 ⟨rfl, hb8⟩
        exact hK9 _ _ _ rfl ⟨appLg l r2, _, rfl, hw8⟩ (hC9.below hG9.self (by decide) hb8) (fun _ => grownAny hb8 _)
      refine wpFactsR_some [] (fun v _ => ∃ (l2 : Lg) (c : Int), v = .tuple #[l2.val, .int .i64 c] ∧ LgW (6 - k) l2) ?_ (fun vs L9 w9 hG9 hC9 hB K9 hK9 => ?_) ?_
      next =>
        intro i9 hi9 hb9 ha9 v w1 w2 hv hT9
        exact hv
      next =>
        simp only [Act.put, List.setIfInBounds_toArray, List.set_cons_zero, List.set_cons_succ] at hK9
        obtain ⟨l3, c3, e3, el3⟩ := hB 3 _ (by kernel_rfl) (by kernel_rfl) rfl (by decide)
        simp only [e3] at hK9 ⊢
        go_simp
        exact hK9 _ _ _ rfl ⟨l3, c3, rfl, el3⟩ (hC9.stay hG9.self (by decide)) (fun _ => World.grownBy.refl _ _)
      refine wpFactsR_some [] (fun v _ => ∃ l2 : Lg, v = l2.val ∧ LgW (6 - k) l2) ?_ (fun vs L9 w9 hG9 hC9 hB K9 hK9 => ?_) ?_
      next =>
        intro i9 hi9 hb9 ha9 v w1 w2 hv hT9
        exact hv
      next =>
        simp only [Act.put, List.setIfInBounds_toArray, List.set_cons_zero, List.set_cons_succ] at hK9
        obtain ⟨l4, c4, e4, el4⟩ := hB 4 _ (by kernel_rfl) (by kernel_rfl) rfl (by decide)
        simp only [e4] at hK9 ⊢
        go_simp
        exact hK9 _ _ _ rfl ⟨l4, rfl, el4⟩ (hC9.stay hG9.self (by decide)) (fun _ => World.grownBy.refl _ _)
      refine wpFactsR_some [] (fun v _ => ∃ z : Int, v = .int .i64 z) ?_ (fun vs L9 w9 hG9 hC9 hB K9 hK9 => ?_) ?_
      next =>
        intro i9 hi9 hb9 ha9 v w1 w2 hv hT9
        exact hv
      next =>
        simp only [Act.put, List.setIfInBounds_toArray, List.set_cons_zero, List.set_cons_succ] at hK9
        obtain ⟨l4, c4, e4, el4⟩ := hB 4 _ (by kernel_rfl) (by kernel_rfl) rfl (by decide)
        simp only [e4] at hK9 ⊢
        go_simp
        exact hK9 _ _ _ rfl ⟨c4, rfl⟩ (hC9.stay hG9.self (by decide)) (fun _ => World.grownBy.refl _ _)
      refine wpFactsR_some [] (fun _ w9 => ∃ l2 : Lg, LgW (6 - k) l2 ∧ Lies w9 (g4 + 1) 36 [.string l2.D, .string l2.P, .int .i64 l2.n]) ?_ (fun vs L9 w9 hG9 hC9 hB K9 hK9 => ?_) ?_
      next =>
        intro i9 hi9 hb9 ha9 v w1 w2 hv hT9
        have hb := hT9 (fun hm => by
          simp only [List.mem_cons, List.not_mem_nil, or_false] at hm hb9
          subst hm
          · exact hi9 rfl)
        obtain ⟨l2, q1, q2⟩ := hv
        exact ⟨l2, q1, q2.kept hb (by intro e; injection e; omega)⟩
      next =>
        simp only [Act.put, List.setIfInBounds_toArray, List.set_cons_zero, List.set_cons_succ] at hK9
        obtain ⟨l5, e5, el5⟩ := hB 5 _ (by kernel_rfl) (by kernel_rfl) rfl (by decide)
        simp only [e5] at hK9 ⊢
        have hL9 : Lies w9 (g4 + 1) 36 [.string l.D, .string l.P, .int .i64 l.n] := (hC9.room (Room.lies 7 (g4 + 1) 36 [.string l.D, .string l.P, .int .i64 l.n]) (by simp)).2 hG9.self
        have y0 := hL9.cell 0
        have y1 := hL9.cell 1
        have y2 := hL9.cell 2
        simp only [List.getElem?_cons_zero, List.getElem?_cons_succ] at y0 y1 y2
        have f0 := hL9.frozen 0
        have f1 := hL9.frozen 1
        have f2 := hL9.frozen 2
        have hN9 : Lies _ (g4 + 1) 36 [.string l5.D, .string l5.P, .int .i64 l5.n] := (((hL9.set 0 (.string l5.D)).set 1 (.string l5.P)).set 2 (.int .i64 l5.n))
        have hG8 := Lib.hid (grown_set (g := (g4 + 1)) (i := 2) (u := .int .i64 l5.n) (grown_set (g := (g4 + 1)) (i := 1) (u := .string l5.P) (grown_set (g := (g4 + 1)) (i := 0) (u := .string l5.D) (World.grownBy.refl w9 (some (g4 + 1))))))
        have hN8 := Lib.hid hN9
        clear hN9 hL9
        go_simp
        exact hK9 _ undef _ rfl ⟨l5, el5, hN8.out⟩ (hC9.wrote hG9.self (by decide) hG8.out (fun b e => by injection e with e; subst e; exact ⟨(by omega), (by omega), .inl (by simp)⟩) (by intro p hp e; simp only [List.mem_cons, List.not_mem_nil, or_false] at hp; first | (subst hp; exact .inl rfl) | (rcases hp with rfl | rfl <;> first | exact .inl rfl | exact absurd (Option.some.inj e) (by omega)))) (fun hq => (hq (by decide)).elim)
      refine wpFactsR_nil fun vs Lq W5 hL9 hC5 hB => ?_
      obtain ⟨l5, q5, hL5⟩ := hB 7 _ rfl rfl (by decide)
      clear hB hL9
      have hL5 : Lies W5 (g4 + 1) 36 [.string l5.D, .string l5.P, .int .i64 l5.n] := hL5
      have L44 := hC5.lies HL4.out (by simp only [List.mem_cons, List.not_mem_nil, or_false]; omega)
      have G5 := drawn_gr HS.out.gr hC5 (by intro k hk hne; simp only [List.mem_cons, List.not_mem_nil, or_false] at hk; omega) E5
      have St5 : LSt w W W5 g A bs cap (m + 10 + 100 * (6 - (k + 1)) + 8 * 8) (g4 + 1) (6 - k) l5 := ⟨hC5.le, hL5, G5, q5⟩
      clear hC5 hL5 G5 q5 E5 K5 HR0 HSZ HS HL4
      go_wp2_with fail
      refine (one_env St5.env 4 (by omega) (by omega)).mono ?_
      rintro e W6 ⟨q, rfl, E6, gr⟩
      have St6 := St5.next E6 gr (by omega)
      replace L44 := L44.kept gr (by intro e; injection e; omega)
      clear gr E6 St5
      cases q
      · have HS := Lib.hid (St6.mono (show _ ≤ m + 10 + 100 * (6 - k) by omega) (Nat.le_refl _))
        have HL4 := Lib.hid L44
        clear St6 L44
        go_wp2_with fail
        go_roundw
        case rel => exact ⟨k, l5, by omega, by go_num, HS, HL4⟩
        case measure => simp [intOf] <;> omega
      · have K5 := St6.lies
        have k0 := K5.cell 0
        have k1 := K5.cell 1
        have k2 := K5.cell 2
        simp only [List.getElem?_cons_zero, List.getElem?_cons_succ] at k0 k1 k2
        clear K5
        go_wp2_with fail
        refine (specSync_any l5 W6 (by have := St6.sz.1; omega)).mono ?_
        rintro e W7 ⟨rfl, hb7⟩
        have hs6 := St6.sz.sync
        have St7 := St6.below hb7
        replace L44 := L44.below hb7 L44.lt
        clear St6 hb7 k0 k1 k2
        generalize syncLg l5 = l6 at hs6 ⊢
        have K5 := St7.lies
        have k0 := K5.cell 0
        have k1 := K5.cell 1
        have k2 := K5.cell 2
        simp only [List.getElem?_cons_zero, List.getElem?_cons_succ] at k0 k1 k2
        have f0 := K5.frozen 0
        have f1 := K5.frozen 1
        have f2 := K5.frozen 2
        have HS := Lib.hid ((St7.store (l' := l6) (by omega) (by omega) (by omega) hs6).mono (show _ ≤ m + 10 + 100 * (6 - k) by omega) (Nat.le_refl _))
        have HL4 := Lib.hid (((L44.other (p := ⟨g4 + 1, 0, none⟩) (by simp) (.string l6.D)).other (p := ⟨g4 + 1, 1, none⟩) (by simp) (.string l6.P)).other (p := ⟨g4 + 1, 2, none⟩) (by simp) (.int .i64 l6.n))
        clear St7 K5 L44 hs6
        go_wp2_with fail
        go_roundw
        case rel => exact ⟨k, l6, by omega, by go_num, HS, HL4⟩
        case measure => simp [intOf] <;> omega
    · obtain rfl : k = 0 := by omega
      clear hlt
      have hi0 : ¬ (0 : Int) < ((0 : Nat) : Int) := by omega
      have L5 := HS.out.lies
      have L4 := HL4.out
      have d0 := L5.cell 0
      have d1 := L5.cell 1
      have d2 := L5.cell 2
      simp only [List.getElem?_cons_zero, List.getElem?_cons_succ] at d0 d1 d2
      have e0 := L4.cell 0
      have e1 := L4.cell 1
      have e2 := L4.cell 2
      simp only [List.getElem?_cons_zero, List.getElem?_cons_succ] at e0 e1 e2
      have f0 := L4.frozen 0
      have f1 := L4.frozen 1
      have f2 := L4.frozen 2
      have n45 : g4 ≠ g4 + 1 := by omega
      have HST := Lib.hid (HS.out.mono (show _ ≤ m + 1000 by omega) (show 6 - 0 ≤ 6 by omega))
      clear HS
      have HH := Lib.hid h4
      have HHW := Lib.hid hW4
      clear h4 hW4
      go_wp2_with fail
      refine bodyPost_ret (v := l.val) (by simp [results, Tryd.results55, go_sem, *]) rfl ⟨l, rfl, HST.out.sz, ?_, ?_⟩
      · exact HST.out.env.wrote (setLog_gr _ g4 _ _ _) HH.out.2 HH.out.1
      · exact grown_own HST.out.gr (setLog_gr _ g4 _ _ _) HHW.out
end Go.Proofs.YtojceibamgodbaaDoor

/- The reference draws a log that may be spoilt. (Printed by gen_dlog2.py) -/
namespace Go.Proofs.YtojceibamgodbaaDoor
open Go.RowKit

/-- The size of a log drawn. -/
def LgB (l : Lg) : Prop := l.D.size + l.P.size ≤ 30000 ∧ -10 ≤ l.n ∧ l.n ≤ 1000
set_option maxRecDepth 100000 in
set_option maxHeartbeats 4000000 in
set_option linter.unusedVariables false in
theorem anyLog_any (g : Nat) (A : Option Addr) (bs : List UInt8) (cap m : Nat) (w W : World) (hm : m ≤ 600000000) (E0 : Env w W g A bs cap m) :
    Calls Tryd.prog 41 #[.pointer (some ⟨g, 0, none⟩)] W fun e w' => ∃ l : Lg, e = .returned l.val ∧ (LgB l ∧ l.P.size ≤ 5000) ∧ Env w w' g A bs cap (m + 2000) ∧ W.grownBy w' (some g) := by
  have hgW := E0.lt
  have hwW := E0.gr.size
  go_enter Tryd.func41, Tryd.ntmps41
  go_wp2_with fail
  have E1 := E0.alloc (.cells #[.string ⟨#[]⟩, .string ⟨#[]⟩, .int .i64 0] 36)
  have L4 := Lies.new W 36 #[.string ⟨#[]⟩, .string ⟨#[]⟩, .int .i64 0]
  have G1 := World.grownBy_alloc W (.cells #[.string ⟨#[]⟩, .string ⟨#[]⟩, .int .i64 0] 36) (some g)
  generalize W.alloc (.cells #[.string ⟨#[]⟩, .string ⟨#[]⟩, .int .i64 0] 36) = W1 at E1 L4 G1 ⊢
  have HG := Lib.hid G1
  obtain ⟨g4, hg4⟩ : ∃ g4, W.heap.size = g4 := ⟨_, rfl⟩
  have h4 : g < g4 ∧ w.heap.size ≤ g4 := by omega
  rw [hg4] at L4
  rw [hg4]
  have HQ := Lib.hid hg4
  clear hg4 hgW hwW E0 G1
  refine (log_any g A bs cap m w W1 (by omega) E1).mono ?_
  rintro e W2 ⟨l, rfl, hs, E2, gr⟩
  replace L4 := L4.kept gr (by intro e; injection e; omega)
  replace HG := Lib.hid (grown_trans HG.out gr)
  clear gr E1
  go_wp2_with fail
  have E3 := E2.alloc (.cells #[.string l.D, .string l.P, .int .i64 l.n] 36)
  have L5 := Lies.new W2 36 #[.string l.D, .string l.P, .int .i64 l.n]
  have h45 := L4.lt
  replace L4 := L4.alloc (.cells #[.string l.D, .string l.P, .int .i64 l.n] 36)
  replace HG := Lib.hid (grown_trans HG.out (World.grownBy_alloc W2 (.cells #[.string l.D, .string l.P, .int .i64 l.n] 36) (some g)))
  generalize W2.alloc (.cells #[.string l.D, .string l.P, .int .i64 l.n] 36) = W3 at E3 L5 L4 HG ⊢
  generalize W2.heap.size = g5 at L5 h45 ⊢
  refine (pick_env E3 24 (by omega) (by omega)).mono ?_
  rintro e W7 ⟨x, rfl, hx, E7, gr⟩
  replace L4 := L4.kept gr (by intro e; injection e; omega)
  replace L5 := L5.kept gr (by intro e; injection e; omega)
  replace HG := Lib.hid (grown_trans HG.out gr)
  have hw5 : w.heap.size ≤ g5 := by omega
  obtain ⟨hs1, hs2, hs3⟩ := hs
  clear gr E3 E2
  have hc : x = 0 ∨ x = 1 ∨ x = 2 ∨ 3 ≤ x := by omega
  clear hx
  rcases hc with rfl | rfl | rfl | h5
  · have hw1 : IntKind.i64.wrap (l.n + 1) = l.n + 1 := IntWalk.i64_in _ (by omega)
    have HE := Lib.hid E7
    clear E7
    have d0 := L5.cell 0
    have d1 := L5.cell 1
    have d2 := L5.cell 2
    simp only [List.getElem?_cons_zero, List.getElem?_cons_succ] at d0 d1 d2
    have e0 := L4.cell 0
    have e1 := L4.cell 1
    have e2 := L4.cell 2
    simp only [List.getElem?_cons_zero, List.getElem?_cons_succ] at e0 e1 e2
    have f0 := L4.frozen 0
    have f1 := L4.frozen 1
    have f2 := L4.frozen 2
    have p0 := L5.frozen 0
    have p1 := L5.frozen 1
    have p2 := L5.frozen 2
    have HL := Lib.hid (And.intro h4 (And.intro h45 hw5))
    have HZ : Hid ((LgB (⟨l.D, l.P, l.n + 1⟩ : Lg) ∧ (⟨l.D, l.P, l.n + 1⟩ : Lg).P.size ≤ 5000)) := ⟨⟨by simp only; omega, by simp only; omega, by simp only; omega⟩, by simp only; omega⟩
    clear h4 hw5 hs1 hs2 hs3
    go_upto_region 9 with fail
    repeat (first | go_values | go_skip | go_guarded | go_step | go_upon | simp only [])
    refine bodyPost_ret (v := (⟨l.D, l.P, l.n + 1⟩ : Lg).val) (by simp [results, Tryd.results41, go_sem, *]) rfl ⟨⟨l.D, l.P, l.n + 1⟩, rfl, HZ.out, ?_, ?_⟩
    · exact ((HE.out.wrote (h := g5) (grown_set (World.grownBy.refl _ _)) HL.out.2.2 (by have := HL.out; omega)).wrote (h := g4) (setLog_gr _ g4 _ _ _) HL.out.1.2 HL.out.1.1).mono (by omega)
    · exact grown_own (grown_own HG.out (grown_set (g := g5) (World.grownBy.refl _ _)) (by have := HL.out; have := HQ.out; omega)) (setLog_gr _ g4 _ _ _) (by have := HQ.out; omega)
  · have k1 := L5.cell 1
    simp only [List.getElem?_cons_zero, List.getElem?_cons_succ] at k1
    go_wp2_with fail
    refine (spoilt_any g A cap _ bs l.P ⟨#[35, 64, 10, 48, 49]⟩ w W7 (by decide) (by decide) (by omega) (by omega) E7).mono ?_
    rintro e W8 ⟨y, rfl, hy, E8, gr⟩
    replace L4 := L4.kept gr (by intro e; injection e; omega)
    replace L5 := L5.kept gr (by intro e; injection e; omega)
    replace HG := Lib.hid (grown_trans HG.out gr)
    clear gr E7 k1
    have HE := Lib.hid E8
    clear E8
    have d0 := L5.cell 0
    have d1 := L5.cell 1
    have d2 := L5.cell 2
    simp only [List.getElem?_cons_zero, List.getElem?_cons_succ] at d0 d1 d2
    have e0 := L4.cell 0
    have e1 := L4.cell 1
    have e2 := L4.cell 2
    simp only [List.getElem?_cons_zero, List.getElem?_cons_succ] at e0 e1 e2
    have f0 := L4.frozen 0
    have f1 := L4.frozen 1
    have f2 := L4.frozen 2
    have p0 := L5.frozen 0
    have p1 := L5.frozen 1
    have p2 := L5.frozen 2
    have HL := Lib.hid (And.intro h4 (And.intro h45 hw5))
    have HZ : Hid ((LgB (⟨l.D, y, l.n⟩ : Lg) ∧ (⟨l.D, y, l.n⟩ : Lg).P.size ≤ 5000)) := ⟨⟨by simp only; omega, by simp only; omega, by simp only; omega⟩, by simp only; omega⟩
    clear h4 hw5 hs1 hs2 hs3
    go_upto_region 9 with fail
    repeat (first | go_values | go_skip | go_guarded | go_step | go_upon | simp only [])
    refine bodyPost_ret (v := (⟨l.D, y, l.n⟩ : Lg).val) (by simp [results, Tryd.results41, go_sem, *]) rfl ⟨⟨l.D, y, l.n⟩, rfl, HZ.out, ?_, ?_⟩
    · exact ((HE.out.wrote (h := g5) (grown_set (World.grownBy.refl _ _)) HL.out.2.2 (by have := HL.out; omega)).wrote (h := g4) (setLog_gr _ g4 _ _ _) HL.out.1.2 HL.out.1.1).mono (by omega)
    · exact grown_own (grown_own HG.out (grown_set (g := g5) (World.grownBy.refl _ _)) (by have := HL.out; have := HQ.out; omega)) (setLog_gr _ g4 _ _ _) (by have := HQ.out; omega)
  · have y1 := size_app l.D l.P
    have hs9 := hs1
    have HE := Lib.hid E7
    clear E7
    have d0 := L5.cell 0
    have d1 := L5.cell 1
    have d2 := L5.cell 2
    simp only [List.getElem?_cons_zero, List.getElem?_cons_succ] at d0 d1 d2
    have e0 := L4.cell 0
    have e1 := L4.cell 1
    have e2 := L4.cell 2
    simp only [List.getElem?_cons_zero, List.getElem?_cons_succ] at e0 e1 e2
    have f0 := L4.frozen 0
    have f1 := L4.frozen 1
    have f2 := L4.frozen 2
    have p0 := L5.frozen 0
    have p1 := L5.frozen 1
    have p2 := L5.frozen 2
    have HL := Lib.hid (And.intro h4 (And.intro h45 hw5))
    have HZ : Hid ((LgB (⟨l.D ++ l.P, l.P, l.n⟩ : Lg) ∧ (⟨l.D ++ l.P, l.P, l.n⟩ : Lg).P.size ≤ 5000)) := ⟨⟨by simp only; omega, by simp only; omega, by simp only; omega⟩, by simp only; omega⟩
    clear h4 hw5 hs1 hs2 hs3
    go_upto_region 9 with fail
    repeat (first | go_values | go_skip | go_guarded | go_step | go_upon | simp only [])
    refine bodyPost_ret (v := (⟨l.D ++ l.P, l.P, l.n⟩ : Lg).val) (by simp [results, Tryd.results41, go_sem, *]) rfl ⟨⟨l.D ++ l.P, l.P, l.n⟩, rfl, HZ.out, ?_, ?_⟩
    · exact ((HE.out.wrote (h := g5) (grown_set (World.grownBy.refl _ _)) HL.out.2.2 (by have := HL.out; omega)).wrote (h := g4) (setLog_gr _ g4 _ _ _) HL.out.1.2 HL.out.1.1).mono (by omega)
    · exact grown_own (grown_own HG.out (grown_set (g := g5) (World.grownBy.refl _ _)) (by have := HL.out; have := HQ.out; omega)) (setLog_gr _ g4 _ _ _) (by have := HQ.out; omega)
  · have b0 : ((x : Int) == 0) = false := by rw [beq_eq_false_iff_ne]; omega
    have b1 : ((x : Int) == 1) = false := by rw [beq_eq_false_iff_ne]; omega
    have b2 : ((x : Int) == 2) = false := by rw [beq_eq_false_iff_ne]; omega
    clear h5
    have HE := Lib.hid E7
    clear E7
    have d0 := L5.cell 0
    have d1 := L5.cell 1
    have d2 := L5.cell 2
    simp only [List.getElem?_cons_zero, List.getElem?_cons_succ] at d0 d1 d2
    have e0 := L4.cell 0
    have e1 := L4.cell 1
    have e2 := L4.cell 2
    simp only [List.getElem?_cons_zero, List.getElem?_cons_succ] at e0 e1 e2
    have f0 := L4.frozen 0
    have f1 := L4.frozen 1
    have f2 := L4.frozen 2
    have p0 := L5.frozen 0
    have p1 := L5.frozen 1
    have p2 := L5.frozen 2
    have HL := Lib.hid (And.intro h4 (And.intro h45 hw5))
    have HZ : Hid ((LgB (⟨l.D, l.P, l.n⟩ : Lg) ∧ (⟨l.D, l.P, l.n⟩ : Lg).P.size ≤ 5000)) := ⟨⟨by simp only; omega, by simp only; omega, by simp only; omega⟩, by simp only; omega⟩
    clear h4 hw5 hs1 hs2 hs3
    go_upto_region 9 with fail
    repeat (first | go_values | go_skip | go_guarded | go_step | go_upon | simp only [])
    refine bodyPost_ret (v := (⟨l.D, l.P, l.n⟩ : Lg).val) (by simp [results, Tryd.results41, go_sem, *]) rfl ⟨⟨l.D, l.P, l.n⟩, rfl, HZ.out, ?_, ?_⟩
    · exact (HE.out.wrote (h := g4) (setLog_gr _ g4 _ _ _) HL.out.1.2 HL.out.1.1).mono (by omega)
    · exact grown_own HG.out (setLog_gr _ g4 _ _ _) (by have := HQ.out; omega)
end Go.Proofs.YtojceibamgodbaaDoor

/- The reference draws what the laws on logs ask for. (Printed by gen_dlog3.py) -/
namespace Go.Proofs.YtojceibamgodbaaDoor
open Go.RowKit

theorem grown_belowR {w w' : World} {g : Nat} (hg : w.grownBy w' (some g)) (h : w.heap.size ≤ g) : Below w.heap.size w w' :=
  ⟨hg.os, hg.tape, hg.output, hg.size, fun k hk => hg.block k hk (by intro e; injection e; omega)⟩
theorem Lies.newC (w : World) (o o' : Obj) (t : TypeId) (cs : Array Value) : Lies (((w.alloc o).alloc o').alloc (.cells cs t)) (w.heap.size + 1 + 1) t cs.toList := by
  have h := Lies.newB (w.alloc o) o' t cs
  rwa [show (w.alloc o).heap.size = w.heap.size + 1 from Array.size_push _] at h
theorem setRec_is {W : World} {g : Nat} {a b : Value} (h : Lies W g 45 [a, b]) (x y : Value) : Lies ((W.setCell ⟨g, 0, none⟩ x).setCell ⟨g, 1, none⟩ y) g 45 [x, y] := by
  have := (h.set 0 x).set 1 y
  simpa using this
theorem setRec_gr (W : World) (g : Nat) (x y : Value) : W.grownBy ((W.setCell ⟨g, 0, none⟩ x).setCell ⟨g, 1, none⟩ y) (some g) := grown_set (grown_set (World.grownBy.refl W (some g)))
theorem Dr.wroteB {w W : World} {g : Nat} {A : Option Addr} {bs : List UInt8} {cap m K n k : Nat} {X : List Nat} {R : List Room} {L : Nat → Bool} {W9 W8 : World} {b : Nat} (h : Dr w W g A bs cap m K n X R L W9) (hL : L k = false) (hk : k < n) (gr : W9.grownBy W8 (some b)) (hgb : g ≠ b) (hrd : BytesR W8 g A bs) (hw : w.heap.size ≤ b) (hX : b ∈ X ∨ W.heap.size ≤ b) (hr : ∀ p ∈ R, p.blk = some b → p.op = k) : Dr w W g A bs cap m K n X R (Listed.but L k) W8 := by
  have hE : Env w W8 g A bs cap (m + K * cntB L n) :=
    ⟨h.env.cur.kept gr (by intro e; injection e with e; exact hgb e), hrd, ⟨gr.os.trans h.env.gr.os, gr.tape.trans h.env.gr.tape, gr.output.trans h.env.gr.output, Nat.le_trans h.env.gr.size gr.size, fun j hj hne => (gr.block j (Nat.lt_of_lt_of_le hj h.env.gr.size) (by intro e; injection e; omega)).trans (h.env.gr.block j hj hne)⟩⟩
  refine ⟨hE.mono (by rw [cntB_but hL n hk, Nat.mul_add]; omega), Nat.le_trans h.size gr.size, fun k hk' hX' => (gr.block k (Nat.lt_of_lt_of_le hk' h.size) (by intro e; injection e with e; subst e; rcases hX with h1 | h1; exact hX' h1; omega)).trans (h.keep k hk' hX'), fun p hp => ⟨(h.room p hp).1, fun hl => ?_⟩⟩
  obtain ⟨h1, h2⟩ := Listed.was hl
  refine p.st _ _ _ gr ?_ ((h.room p hp).2 h1)
  by_cases e : p.blk = some b
  · exact absurd (hr p hp e) h2
  · exact .inr e
/-- The bytes that came in stand, whatever the call's own blocks turned into. -/
theorem drawn_bytes {w0 w W W9 W8 : World} {g b : Nat} {A : Option Addr} {bs : List UInt8} {cap m K n : Nat} {X : List Nat} {R : List Room} {L : Nat → Bool} (hr : BytesR w0 w0.heap.size A bs) (G : w0.grownBy W (some g)) (h : Dr w W g A bs cap m K n X R L W9) (hX : ∀ k ∈ X, w0.heap.size ≤ k) (gr : W9.grownBy W8 (some b)) (hb : w0.heap.size ≤ b) (hg : w0.heap.size ≤ g) : BytesR W8 g A bs := by
  refine SlcR.mono (hr.keep fun p hp => ?_) hg
  refine World.cell?_of_block ?_
  have h0 : p.block < W.heap.size := Nat.lt_of_lt_of_le hp G.size
  rw [gr.block p.block (Nat.lt_of_lt_of_le h0 h.size) (by intro e; injection e; omega), h.keep p.block h0 (fun hm => by have := hX _ hm; omega), G.block p.block hp (by intro e; injection e; omega)]
/-- One of a list that lies in a block: it is of the list. -/
theorem among_mem {w W : World} {g : Nat} {A : Option Addr} {bs : List UInt8} {cap m : Nat} (E : Env w W g A bs cap m) (b n : Nat) (l : List Int) (hl : l.length = n) (hL : Lies W b 3 (encIs l)) (hne : b ≠ g) (h0 : 0 < n) (hn : n ≤ 100000) (hm : m ≤ 900000000) :
    Calls Tryd.prog 54 #[.pointer (some ⟨g, 0, none⟩), .slice (some ⟨b, 0, none⟩) n n] W fun e w' => ∃ x : Int, e = .returned (.int .i64 x) ∧ x ∈ l ∧ Env w w' g A bs cap (m + 2) ∧ W.grownBy w' (some g) := by
  subst hl
  have hi : IntsR W W.heap.size (some ⟨b, 0, none⟩) l := hL.reads (encIs_len l) (by omega)
  exact (among_any g A _ cap _ m bs l _ h0 hn hm E.cur E.rd hi (by intro e; injection e with e; exact hne e)).mono fun _ _ ⟨x, he, hx, hc, hg⟩ => ⟨x, he, hx, E.next hc hg, hg⟩
theorem below_set {w W : World} {b : Nat} (h : Below w.heap.size w W) {W' : World} (hg : W.grownBy W' (some b)) (hb : w.heap.size ≤ b) : Below w.heap.size w W' :=
  h.grown hg h.size (by rintro _ ⟨⟩; exact hb)

set_option maxRecDepth 100000 in
set_option maxHeartbeats 4000000 in
set_option linter.unusedVariables false in
theorem drawEncode_any (A : Option Addr) (cap : Nat) (bs : List UInt8) (w : World) (hr : BytesR w w.heap.size A bs) :
    Calls Tryd.prog 27 #[.slice A bs.length cap] w fun e w' => ∃ (k : Int) (r : Rec), e = .returned (.tuple #[.int .i64 k, r.val]) ∧ (-1 ≤ k ∧ k ≤ 60) ∧ (r.c.size ≤ 20 ∧ r.r.size ≤ 20) ∧ Below w.heap.size w w' := by
  have b1 : Below w.heap.size w ((w.alloc (.cells #[.string ⟨#[]⟩, .string ⟨#[]⟩] 45)).alloc (.cells #[.slice A bs.length cap, .int .i64 0, .int .u64 0] 77)) := ((Below.refl w.heap.size w).alloc (by exact Nat.le_refl _) (.cells #[.string ⟨#[]⟩, .string ⟨#[]⟩] 45)).alloc (by simp) (.cells #[.slice A bs.length cap, .int .i64 0, .int .u64 0] 77)
  have Lc := Lies.newB w (.cells #[.string ⟨#[]⟩, .string ⟨#[]⟩] 45) 77 #[.slice A bs.length cap, .int .i64 0, .int .u64 0]
  have L2 := (Lies.new w 45 #[.string ⟨#[]⟩, .string ⟨#[]⟩]).alloc (.cells #[.slice A bs.length cap, .int .i64 0, .int .u64 0] 77)
  go_enter Tryd.func27, Tryd.ntmps27
  go_wp2_with fail
  have L6 := Lies.new ((w.alloc (.cells #[.string ⟨#[]⟩, .string ⟨#[]⟩] 45)).alloc (.cells #[.slice A bs.length cap, .int .i64 0, .int .u64 0] 77)) 3 #[.int .i64 0, .int .i64 1, .int .i64 12, .int .i64 59, .int .i64 60, .int .i64 (-1)]
  have hs6 : ((w.alloc (.cells #[.string ⟨#[]⟩, .string ⟨#[]⟩] 45)).alloc (.cells #[.slice A bs.length cap, .int .i64 0, .int .u64 0] 77)).heap.size = w.heap.size + 1 + 1 := by simp
  generalize ((w.alloc (.cells #[.string ⟨#[]⟩, .string ⟨#[]⟩] 45)).alloc (.cells #[.slice A bs.length cap, .int .i64 0, .int .u64 0] 77)) = W1 at b1 Lc L2 L6 hs6 ⊢
  have E1 : Env w W1 (w.heap.size + 1) A bs cap 0 := ⟨⟨0, 0, Lc, Nat.le_refl _, by omega, by omega⟩, (SlcR.below hr b1).mono (by omega), grownAny b1 _⟩
  have hgl := Lc.lt
  have HG := Lib.hid (grownAny b1 (some (w.heap.size + 1)))
  have HBR := Lib.hid hr
  clear hr Lc b1
  have E2 := E1.alloc (.cells #[.int .i64 0, .int .i64 1, .int .i64 12, .int .i64 59, .int .i64 60, .int .i64 (-1)] 3)
  replace L2 := L2.alloc (.cells #[.int .i64 0, .int .i64 1, .int .i64 12, .int .i64 59, .int .i64 60, .int .i64 (-1)] 3)
  replace HG := Lib.hid (grown_trans HG.out (World.grownBy_alloc W1 (.cells #[.int .i64 0, .int .i64 1, .int .i64 12, .int .i64 59, .int .i64 60, .int .i64 (-1)] 3) (some (w.heap.size + 1))))
  rw [hs6] at L6
  clear E1 hs6
  generalize W1.alloc (.cells #[.int .i64 0, .int .i64 1, .int .i64 12, .int .i64 59, .int .i64 60, .int .i64 (-1)] 3) = W2 at E2 L2 L6 HG ⊢
  refine (among_mem E2 (w.heap.size + 1 + 1) 6 [0, 1, 12, 59, 60, -1] rfl L6 (by omega) (by omega) (by omega) (by omega)).mono ?_
  rintro e W3 ⟨k, rfl, hk, E3, gr⟩
  have hkb : -1 ≤ k ∧ k ≤ 60 := by
    simp only [List.mem_cons, List.not_mem_nil, or_false] at hk; omega
  replace L2 := L2.kept gr (by intro e; injection e; omega)
  replace HG := Lib.hid (grown_trans HG.out gr)
  clear gr E2 hk L6
  go_wp2_with fail
  refine (logRecord_any (w.heap.size + 1) A bs cap _ w W3 (by omega) E3).mono ?_
  rintro e W4 ⟨r, rfl, hs, E9, gr⟩
  replace L2 := L2.kept gr (by intro e; injection e; omega)
  have BB := grown_belowR (grown_trans HG.out gr) (by omega)
  clear gr E3 E9 HG
  have x0 := L2.cell 0
  have x1 := L2.cell 1
  simp only [List.getElem?_cons_zero, List.getElem?_cons_succ] at x0 x1
  have f0 := L2.frozen 0
  have f1 := L2.frozen 1
  have HB := Lib.hid (below_set BB (setRec_gr W4 w.heap.size (.string r.c) (.string r.r)) (Nat.le_refl _))
  clear BB
  go_wp2_with fail
  refine bodyPost_ret (v := .tuple #[.int .i64 k, r.val]) (by simp [results, Tryd.results27, go_sem, *]) rfl ?_
  exact ⟨k, r, rfl, hkb, hs, HB.out⟩
set_option maxRecDepth 100000 in
set_option maxHeartbeats 4000000 in
set_option linter.unusedVariables false in
theorem drawRecover_any (A : Option Addr) (cap : Nat) (bs : List UInt8) (w : World) (hr : BytesR w w.heap.size A bs) :
    Calls Tryd.prog 30 #[.slice A bs.length cap] w fun e w' => ∃ s : ByteArray, e = .returned (.string s) ∧ s.size ≤ 40000 ∧ Below w.heap.size w w' := by
  have b1 : Below w.heap.size w (w.alloc (.cells #[.slice A bs.length cap, .int .i64 0, .int .u64 0] 77)) := (Below.refl w.heap.size w).alloc (by exact Nat.le_refl _) (.cells #[.slice A bs.length cap, .int .i64 0, .int .u64 0] 77)
  have Lc := Lies.new w 77 #[.slice A bs.length cap, .int .i64 0, .int .u64 0]
  go_enter Tryd.func30, Tryd.ntmps30
  go_wp2_with fail
  generalize (w.alloc (.cells #[.slice A bs.length cap, .int .i64 0, .int .u64 0] 77)) = W1 at b1 Lc ⊢
  have E1 : Env w W1 w.heap.size A bs cap 0 := ⟨⟨0, 0, Lc, Nat.le_refl _, by omega, by omega⟩, (SlcR.below hr b1).mono (by omega), grownAny b1 _⟩
  have hgl := Lc.lt
  have HG := Lib.hid (grownAny b1 (some w.heap.size))
  have HBR := Lib.hid hr
  clear hr Lc b1
  refine (log_any w.heap.size A bs cap _ w W1 (by omega) E1).mono ?_
  rintro e W2 ⟨l, rfl, hs, E2, gr⟩
  replace HG := Lib.hid (grown_trans HG.out gr)
  obtain ⟨hsz, -, -⟩ := hs
  have y1 := size_app l.D l.P
  clear gr E1
  go_upto_region 3 with fail
  have E3 := E2.alloc (.cells #[.string l.D, .string l.P, .int .i64 l.n] 36)
  have L5 := Lies.new W2 36 #[.string l.D, .string l.P, .int .i64 l.n]
  have k0 := L5.cell 0
  have k1 := L5.cell 1
  simp only [List.getElem?_cons_zero, List.getElem?_cons_succ] at k0 k1
  replace HG := Lib.hid (grown_trans HG.out (World.grownBy_alloc W2 (.cells #[.string l.D, .string l.P, .int .i64 l.n] 36) (some w.heap.size)))
  generalize W2.alloc (.cells #[.string l.D, .string l.P, .int .i64 l.n] 36) = W3 at E3 HG k0 k1 ⊢
  generalize W2.heap.size = g5 at k0 k1 ⊢
  clear L5
  go_cut [5] (fun s5 wx => s5 = .string (l.D ++ l.P) ∧ wx = W3)
  case first =>
    go_wp2_with fail
    go_meet
    case rel => exact ⟨rfl, rfl⟩
  case rest =>
  obtain ⟨rfl, rfl⟩ := hcut
  generalize hsx : l.D ++ l.P = sx at y1 ⊢
  have hsx2 : sx.size ≤ 2460 := by omega
  clear hsx y1 E2 hsz k0 k1
  go_step
  go_step
  go_cut [5] (fun s5 wx => ∃ s : ByteArray, s5 = .string s ∧ s.size ≤ 4000 ∧ Env w wx w.heap.size A bs cap 2000 ∧ w.grownBy wx (some w.heap.size))
  case first =>
    go_wp2_with fail
    refine (pick_env E3 4 (by omega) (by omega)).mono ?_
    rintro e W4 ⟨x, rfl, hx, E4, gr⟩
    replace HG := Lib.hid (grown_trans HG.out gr)
    clear gr E3
    have hc : x = 0 ∨ x = 1 ∨ x = 2 ∨ 3 ≤ x := by omega
    clear hx
    rcases hc with rfl | rfl | rfl | h5
    · go_wp2_with fail
      refine (spoilt_any w.heap.size A cap _ bs sx ⟨#[35, 64, 10, 48, 49]⟩ w W4 (by decide) (by decide) (by omega) (by omega) E4).mono ?_
      rintro e W5 ⟨y, rfl, hy, E5, gr⟩
      replace HG := Lib.hid (grown_trans HG.out gr)
      clear gr E4
      go_wp2_with fail
      go_meet
      case rel => exact ⟨y, rfl, by omega, E5.mono (by omega), HG.out⟩
    · go_wp2_with fail
      have hq : (sx.size : Int) + 1 = ((sx.size + 1 : Nat) : Int) := by omega
      rw [hq]
      refine (pick_env E4 (sx.size + 1) (by omega) (by omega)).mono ?_
      rintro e W5 ⟨y, rfl, hy, E5, gr⟩
      replace HG := Lib.hid (grown_trans HG.out gr)
      have hy' : y ≤ sx.size := by omega
      have y2 := ex_size sx 0 y
      clear gr E4 hq hy
      go_wp2_with fail
      go_meet
      case rel => exact ⟨_, rfl, by omega, E5.mono (by omega), HG.out⟩
    · go_wp2_with fail
      refine (pick_env E4 4 (by omega) (by omega)).mono ?_
      rintro e W5 ⟨k, rfl, hk, E5, gr⟩
      replace HG := Lib.hid (grown_trans HG.out gr)
      clear gr E4
      go_wp2_with fail
      refine (logRecord_any w.heap.size A bs cap _ w W5 (by omega) E5).mono ?_
      rintro e W6 ⟨r, rfl, ⟨hs1, hs2⟩, E6, gr⟩
      replace HG := Lib.hid (grown_trans HG.out gr)
      clear gr E5
      go_wp2_with fail
      refine (l33Line_any k r W6 (by omega) (by omega) (by omega)).mono ?_
      rintro e W7 ⟨rfl, hb⟩
      have E7 := E6.below hb
      replace HG := Lib.hid (grown_trans HG.out (grownAny hb _))
      clear hb E6
      obtain ⟨ln, hln⟩ : ∃ ln : ByteArray, (⟨(lineL k (bl r.c) (bl r.r)).toArray⟩ : ByteArray) = ln := ⟨_, rfl⟩
      have hlz : ln.size ≤ 200 := by
        rw [← hln]
        have h1 : (⟨(lineL k (bl r.c) (bl r.r)).toArray⟩ : ByteArray).size = (lineL k (bl r.c) (bl r.r)).length := by simp [ByteArray.size]
        have h2 := seal_len (txtL k (bl r.c) (bl r.r))
        have h3 := itoa_le21 (n := k) (by omega)
        rw [h1]
        unfold lineL
        rw [List.length_append]
        unfold txtL at h2 ⊢
        simp only [List.length_append, List.length_cons, List.length_nil, bl_size] at h2 ⊢
        omega
      rw [hln]
      clear hln
      have y2 := size_app sx ln
      go_wp2_with fail
      go_meet
      case rel => exact ⟨_, rfl, by omega, E7.mono (by omega), HG.out⟩
    · have b0 : ((x : Int) == 0) = false := by rw [beq_eq_false_iff_ne]; omega
      have b1 : ((x : Int) == 1) = false := by rw [beq_eq_false_iff_ne]; omega
      have b2 : ((x : Int) == 2) = false := by rw [beq_eq_false_iff_ne]; omega
      clear h5
      go_wp2_with fail
      go_meet
      case rel => exact ⟨sx, rfl, by omega, E4.mono (by omega), HG.out⟩
  case rest =>
    clear E3 HG hsx2
    obtain ⟨s, rfl, hs, E5, hg⟩ := hcut
    have HG := Lib.hid hg
    clear hg
    go_wp2_with fail
    refine (one_env E5 40 (by omega) (by omega)).mono ?_
    rintro e W6 ⟨q, rfl, E6, gr⟩
    replace HG := Lib.hid (grown_trans HG.out gr)
    clear gr E5
    cases q
    · go_wp2_with fail
      go_ret
      exact ⟨s, rfl, by omega, grown_belowR HG.out (by omega)⟩
    · go_wp2_with fail
      refine (pick_env E6 2 (by omega) (by omega)).mono ?_
      rintro e W7 ⟨x, rfl, hx, E7, gr⟩
      replace HG := Lib.hid (grown_trans HG.out gr)
      clear gr E6
      obtain ⟨W8, z, hz, hb8, hmk, hcv⟩ := zero_text (30000 + x) (by omega) W7
      have HB := Lib.hid (grown_belowR (grown_trans HG.out (grownAny hb8 (some w.heap.size))) (by omega))
      have hw1 : IntKind.i64.wrap (30000 + (x : Int)) = 30000 + (x : Int) := IntWalk.i64_in _ (by omega)
      simp only [Int.natCast_add, Int.cast_ofNat_Int] at hmk
      clear hb8 E7
      go_wp2_with fail
      go_ret
      exact ⟨z, rfl, by omega, HB.out⟩

set_option maxRecDepth 100000 in
set_option maxHeartbeats 4000000 in
set_option linter.unusedVariables false in
theorem drawCrash_any (A : Option Addr) (cap : Nat) (bs : List UInt8) (w : World) (hr : BytesR w w.heap.size A bs) :
    Calls Tryd.prog 23 #[.slice A bs.length cap] w fun e w' => ∃ (l : Lg) (k : Int) (b : Bool), e = .returned (.tuple #[l.val, .int .i64 k, .bool b]) ∧ LgB l ∧ (-1 ≤ k ∧ k ≤ 6000) ∧ Below w.heap.size w w' := by
  have b1 : Below w.heap.size w ((w.alloc (.cells #[.string ⟨#[]⟩, .string ⟨#[]⟩, .int .i64 0] 36)).alloc (.cells #[.slice A bs.length cap, .int .i64 0, .int .u64 0] 77)) := ((Below.refl w.heap.size w).alloc (by exact Nat.le_refl _) (.cells #[.string ⟨#[]⟩, .string ⟨#[]⟩, .int .i64 0] 36)).alloc (by simp) (.cells #[.slice A bs.length cap, .int .i64 0, .int .u64 0] 77)
  have Lc := Lies.newB w (.cells #[.string ⟨#[]⟩, .string ⟨#[]⟩, .int .i64 0] 36) 77 #[.slice A bs.length cap, .int .i64 0, .int .u64 0]
  have L2 := (Lies.new w 36 #[.string ⟨#[]⟩, .string ⟨#[]⟩, .int .i64 0]).alloc (.cells #[.slice A bs.length cap, .int .i64 0, .int .u64 0] 77)
  go_enter Tryd.func23, Tryd.ntmps23
  go_wp2_with fail
  generalize ((w.alloc (.cells #[.string ⟨#[]⟩, .string ⟨#[]⟩, .int .i64 0] 36)).alloc (.cells #[.slice A bs.length cap, .int .i64 0, .int .u64 0] 77)) = W1 at b1 Lc L2 ⊢
  have E1 : Env w W1 (w.heap.size + 1) A bs cap 0 := ⟨⟨0, 0, Lc, Nat.le_refl _, by omega, by omega⟩, (SlcR.below hr b1).mono (by omega), grownAny b1 _⟩
  have hgl := Lc.lt
  have HG := Lib.hid (grownAny b1 (some (w.heap.size + 1)))
  have HBR := Lib.hid hr
  clear hr Lc b1
  refine (anyLog_any (w.heap.size + 1) A bs cap _ w W1 (by omega) E1).mono ?_
  rintro e W2 ⟨l, rfl, ⟨hs, hsP⟩, E2, gr⟩
  replace L2 := L2.kept gr (by intro e; injection e; omega)
  replace HG := Lib.hid (grown_trans HG.out gr)
  have hle : W1.heap.size ≤ W2.heap.size := gr.size
  clear gr E1
  go_upto_region 3 with fail
  have E3 := E2.alloc (.cells #[.string l.D, .string l.P, .int .i64 l.n] 36)
  have L6 := Lies.new W2 36 #[.string l.D, .string l.P, .int .i64 l.n]
  replace L2 := L2.alloc (.cells #[.string l.D, .string l.P, .int .i64 l.n] 36)
  replace HG := Lib.hid (grown_trans HG.out (World.grownBy_alloc W2 (.cells #[.string l.D, .string l.P, .int .i64 l.n] 36) (some (w.heap.size + 1))))
  generalize W2.alloc (.cells #[.string l.D, .string l.P, .int .i64 l.n] 36) = W3 at E3 L6 L2 HG ⊢
  generalize W2.heap.size = g6 at L6 hle ⊢
  clear E2
  have k1 := L6.cell 1
  simp only [List.getElem?_cons_zero, List.getElem?_cons_succ] at k1
  go_wp2_with fail
  have hq : (l.P.size : Int) + 3 = ((l.P.size + 3 : Nat) : Int) := by omega
  rw [hq]
  clear hq
  refine (pick_env E3 (l.P.size + 3) (by omega) (by omega)).mono ?_
  rintro e W5 ⟨x, rfl, hx, E5, gr⟩
  have E5 := E5.mono (show _ ≤ 5000 by omega)
  replace L6 := L6.kept gr (by intro e; injection e; omega)
  have HL2 := Lib.hid (L2.kept gr (by intro e; injection e; omega))
  replace HG := Lib.hid (grown_trans HG.out gr)
  clear gr E3 L2 k1
  have nx6 : g6 ∉ [(w.heap.size + 1), w.heap.size] := by simp only [List.mem_cons, List.not_mem_nil, or_false]; omega
  go_upto_region 4 with fail
  have HR0 : Hid (∀ p ∈ [Room.lies 4 w.heap.size 36 [.string ⟨#[]⟩, .string ⟨#[]⟩, .int .i64 0]], p.blk ≠ some (w.heap.size + 1) ∧ p.P W5) := by
    intro p hp
    simp only [List.mem_cons, List.not_mem_nil, or_false] at hp
    subst hp
    exact ⟨by intro e; injection e; omega, HL2.out⟩
  refine wp_region_factsR (Dr w W5 (w.heap.size + 1) A bs cap (5000) 2 7 [(w.heap.size + 1), w.heap.size] [Room.lies 4 w.heap.size 36 [.string ⟨#[]⟩, .string ⟨#[]⟩, .int .i64 0]]) (fun i w1 w2 => i ∉ [4] → w1.grownBy w2 (some (w.heap.size + 1))) (by kernel_rfl) (by kernel_rfl) (by kernel_rfl) (Dr.start E5 HR0.out) ?_
  simp only [fillOps, Act.put, List.setIfInBounds_toArray, List.set_cons_zero, List.set_cons_succ, Nat.zero_add, Nat.reduceAdd]
  apply wpFactsR_val
  case h1 =>
    intro vs L9 w9 hG9 hC9 hB K9 hK9
    have q0 : w9.cell? ⟨g6, 0, none⟩ = some (.string l.D) := (hC9.lies L6 nx6).cell 0
    have q1 : w9.cell? ⟨g6, 1, none⟩ = some (.string l.P) := (hC9.lies L6 nx6).cell 1
    have q2 : w9.cell? ⟨g6, 2, none⟩ = some (.int .i64 l.n) := (hC9.lies L6 nx6).cell 2
    simp only [Act.put, List.setIfInBounds_toArray, List.set_cons_zero, List.set_cons_succ] at hK9
    go_simp
    exact hK9 _ _ rfl (hC9.stay hG9.self (by decide)) (fun _ => World.grownBy.refl _ _)
  apply wpFactsR_val
  case h1 =>
    intro vs L9 w9 hG9 hC9 hB K9 hK9
    simp only [Act.put, List.setIfInBounds_toArray, List.set_cons_zero, List.set_cons_succ] at hK9
    go_simp
    exact hK9 _ _ rfl (hC9.stay hG9.self (by decide)) (fun _ => World.grownBy.refl _ _)
  apply wpFactsR_val
  case h1 =>
    intro vs L9 w9 hG9 hC9 hB K9 hK9
    simp only [Act.put, List.setIfInBounds_toArray, List.set_cons_zero, List.set_cons_succ] at hK9
    go_simp
    exact hK9 _ _ rfl (hC9.stay hG9.self (by decide)) (fun _ => World.grownBy.refl _ _)
  refine wpFactsR_some [] (fun v _ => ∃ b : Bool, v = .bool b) ?_ (fun vs L9 w9 hG9 hC9 hB K9 hK9 => ?_) ?_
  next =>
    intro i9 hi9 hb9 ha9 v w1 w2 hv hT9
    exact hv
  next =>
    have d2 := FactN.eq (hB 2 _ (by kernel_rfl) (by kernel_rfl) rfl (by decide))
    simp only [d2] at hK9 ⊢
    simp only [Act.put, List.setIfInBounds_toArray, List.set_cons_zero, List.set_cons_succ] at hK9
    go_simp
    refine (one_env hC9.env 2 (by omega) (by have := hC9.cnt; omega)).mono ?_
    rintro en w8 ⟨x8, rfl, hE8, hg8⟩
    exact hK9 _ _ _ rfl ⟨_, rfl⟩ (hC9.call hG9.self (by decide) hE8 (by have := hC9.cnt; omega) hg8 (by simp)) (fun _ => hg8)
  refine wpFactsR_some [] (fun _ w9 => Lies w9 w.heap.size 36 [.string l.D, .string l.P, .int .i64 l.n]) ?_ (fun vs L9 w9 hG9 hC9 hB K9 hK9 => ?_) ?_
  next =>
    intro i9 hi9 hb9 ha9 v w1 w2 hv hT9
    have hb := hT9 (fun hm => by
      simp only [List.mem_cons, List.not_mem_nil, or_false] at hm hb9
      subst hm
      · exact hi9 rfl)
    exact hv.kept hb (by intro e; injection e; omega)
  next =>
    have d0 := FactN.eq (hB 0 _ (by kernel_rfl) (by kernel_rfl) rfl (by decide))
    simp only [d0] at hK9 ⊢
    simp only [Act.put, List.setIfInBounds_toArray, List.set_cons_zero, List.set_cons_succ] at hK9
    have hL9 : Lies w9 w.heap.size 36 [.string ⟨#[]⟩, .string ⟨#[]⟩, .int .i64 0] := (hC9.room (Room.lies 4 w.heap.size 36 [.string ⟨#[]⟩, .string ⟨#[]⟩, .int .i64 0]) (by simp)).2 hG9.self
    have y0 := hL9.cell 0
    have y1 := hL9.cell 1
    have y2 := hL9.cell 2
    simp only [List.getElem?_cons_zero, List.getElem?_cons_succ] at y0 y1 y2
    have f0 := hL9.frozen 0
    have f1 := hL9.frozen 1
    have f2 := hL9.frozen 2
    have hN9 : Lies _ w.heap.size 36 [.string l.D, .string l.P, .int .i64 l.n] := (((hL9.set 0 (.string l.D)).set 1 (.string l.P)).set 2 (.int .i64 l.n))
    have hG8 := Lib.hid (grown_set (g := w.heap.size) (i := 2) (u := .int .i64 l.n) (grown_set (g := w.heap.size) (i := 1) (u := .string l.P) (grown_set (g := w.heap.size) (i := 0) (u := .string l.D) (World.grownBy.refl w9 (some w.heap.size)))))
    have hN8 := Lib.hid hN9
    clear hN9 hL9
    go_simp
    exact hK9 _ undef _ rfl hN8.out (hC9.wroteB hG9.self (by decide) hG8.out (by omega) (drawn_bytes HBR.out HG.out hC9 (by intro k hk; simp only [List.mem_cons, List.not_mem_nil, or_false] at hk; omega) hG8.out (by omega) (by omega)) (by omega) (.inl (by simp)) (by intro p hp e; simp only [List.mem_cons, List.not_mem_nil, or_false] at hp; subst hp; rfl)) (fun hq => (hq (by decide)).elim)
  apply wpFactsR_val
  case h1 =>
    intro vs L9 w9 hG9 hC9 hB K9 hK9
    have d1 := FactN.eq (hB 1 _ (by kernel_rfl) (by kernel_rfl) rfl (by decide))
    simp only [d1] at hK9 ⊢
    simp only [Act.put, List.setIfInBounds_toArray, List.set_cons_zero, List.set_cons_succ] at hK9
    go_simp
    exact hK9 _ _ rfl (hC9.stay hG9.self (by decide)) (fun _ => World.grownBy.refl _ _)
  refine wpFactsR_some [] (fun v _ => ∃ b : Bool, v = .bool b) ?_ (fun vs L9 w9 hG9 hC9 hB K9 hK9 => ?_) ?_
  next =>
    intro i9 hi9 hb9 ha9 v w1 w2 hv hT9
    exact hv
  next =>
    simp only [Act.put, List.setIfInBounds_toArray, List.set_cons_zero, List.set_cons_succ] at hK9
    obtain ⟨b3, e3⟩ := hB 3 _ (by kernel_rfl) (by kernel_rfl) rfl (by decide)
    simp only [e3] at hK9 ⊢
    go_simp
    exact hK9 _ _ _ rfl ⟨_, rfl⟩ (hC9.stay hG9.self (by decide)) (fun _ => World.grownBy.refl _ _)
  refine wpFactsR_nil fun vs Lq W6 hL9 hC6 hB => ?_
  obtain ⟨tb, htb⟩ := hB 6 _ rfl rfl (by decide)
  have d5 := FactN.eq (hB 5 _ rfl rfl (by decide))
  have hY := hB 4 _ rfl rfl (by decide)
  clear hB hL9
  have hY : Lies W6 w.heap.size 36 [.string l.D, .string l.P, .int .i64 l.n] := hY
  have BB := grown_belowR (drawn_gr HG.out hC6 (by intro k hk hne; simp only [List.mem_cons, List.not_mem_nil, or_false] at hk; omega) E5) (by omega)
  have z0 := hY.cell 0
  have z1 := hY.cell 1
  have z2 := hY.cell 2
  simp only [List.getElem?_cons_zero, List.getElem?_cons_succ] at z0 z1 z2
  clear hC6 HR0 E5 HL2 L6
  go_wp2_with fail
  refine bodyPost_ret (v := .tuple #[l.val, .int .i64 ((x : Int) - 1), .bool tb]) (by simp [results, Tryd.results23, go_sem, *]) rfl ?_
  exact ⟨l, _, tb, rfl, hs, by omega, BB⟩

/-- The log in its variable, the results' own blocks. -/
structure ASt (w wx : World) (g : Nat) (A : Option Addr) (bs : List UInt8) (cap m g5 : Nat) (l : Lg) : Prop where
  env : Env w wx g A bs cap m
  l5 : Lies wx g5 36 [.string l.D, .string l.P, .int .i64 l.n]
  l2 : Lies wx w.heap.size 36 [.string ⟨#[]⟩, .string ⟨#[]⟩, .int .i64 0]
  l3 : Lies wx (w.heap.size + 1) 45 [.string ⟨#[]⟩, .string ⟨#[]⟩]
  gr : w.grownBy wx (some g)
theorem ASt.next {w wx wy : World} {g : Nat} {A : Option Addr} {bs : List UInt8} {cap m m' g5 : Nat} {l : Lg} (h : ASt w wx g A bs cap m g5 l) (E : Env w wy g A bs cap m') (hg : wx.grownBy wy (some g)) (h5 : g < g5) (h2 : w.heap.size + 1 < g) : ASt w wy g A bs cap m' g5 l :=
  ⟨E, h.l5.kept hg (by intro e; injection e; omega), h.l2.kept hg (by intro e; injection e; omega), h.l3.kept hg (by intro e; injection e; omega), grown_trans h.gr hg⟩
theorem ASt.store {w wx : World} {g : Nat} {A : Option Addr} {bs : List UInt8} {cap m g5 : Nat} {l : Lg} (h : ASt w wx g A bs cap m g5 l) (l' : Lg) (h5 : g < g5) (h2 : w.heap.size + 1 < g) :
    ASt w (((wx.setCell ⟨g5, 0, none⟩ (.string l'.D)).setCell ⟨g5, 1, none⟩ (.string l'.P)).setCell ⟨g5, 2, none⟩ (.int .i64 l'.n)) g A bs cap m g5 l' :=
  ⟨h.env.wrote (setLog_gr _ g5 _ _ _) (by omega) h5, setLog_is h.l5 _ _ _, h.l2.kept (setLog_gr _ g5 _ _ _) (by intro e; injection e; omega), h.l3.kept (setLog_gr _ g5 _ _ _) (by intro e; injection e; omega), grown_own h.gr (setLog_gr _ g5 _ _ _) (by omega)⟩

set_option maxRecDepth 100000 in
set_option maxHeartbeats 4000000 in
set_option linter.unusedVariables false in
theorem drawAppend_any (A : Option Addr) (cap : Nat) (bs : List UInt8) (w : World) (hr : BytesR w w.heap.size A bs) :
    Calls Tryd.prog 13 #[.slice A bs.length cap] w fun e w' => ∃ (l : Lg) (r : Rec), e = .returned (.tuple #[l.val, r.val]) ∧ LgB l ∧ (r.c.size ≤ 20 ∧ r.r.size ≤ 20) ∧ Below w.heap.size w w' := by
  have b1 : Below w.heap.size w (((w.alloc (.cells #[.string ⟨#[]⟩, .string ⟨#[]⟩, .int .i64 0] 36)).alloc (.cells #[.string ⟨#[]⟩, .string ⟨#[]⟩] 45)).alloc (.cells #[.slice A bs.length cap, .int .i64 0, .int .u64 0] 77)) := (((Below.refl w.heap.size w).alloc (by exact Nat.le_refl _) (.cells #[.string ⟨#[]⟩, .string ⟨#[]⟩, .int .i64 0] 36)).alloc (by simp) (.cells #[.string ⟨#[]⟩, .string ⟨#[]⟩] 45)).alloc (by simp; omega) (.cells #[.slice A bs.length cap, .int .i64 0, .int .u64 0] 77)
  have Lc := Lies.newC w (.cells #[.string ⟨#[]⟩, .string ⟨#[]⟩, .int .i64 0] 36) (.cells #[.string ⟨#[]⟩, .string ⟨#[]⟩] 45) 77 #[.slice A bs.length cap, .int .i64 0, .int .u64 0]
  have L2 := ((Lies.new w 36 #[.string ⟨#[]⟩, .string ⟨#[]⟩, .int .i64 0]).alloc (.cells #[.string ⟨#[]⟩, .string ⟨#[]⟩] 45)).alloc (.cells #[.slice A bs.length cap, .int .i64 0, .int .u64 0] 77)
  have L3 := (Lies.newB w (.cells #[.string ⟨#[]⟩, .string ⟨#[]⟩, .int .i64 0] 36) 45 #[.string ⟨#[]⟩, .string ⟨#[]⟩]).alloc (.cells #[.slice A bs.length cap, .int .i64 0, .int .u64 0] 77)
  go_enter Tryd.func13, Tryd.ntmps13
  go_wp2_with fail
  generalize (((w.alloc (.cells #[.string ⟨#[]⟩, .string ⟨#[]⟩, .int .i64 0] 36)).alloc (.cells #[.string ⟨#[]⟩, .string ⟨#[]⟩] 45)).alloc (.cells #[.slice A bs.length cap, .int .i64 0, .int .u64 0] 77)) = W1 at b1 Lc L2 L3 ⊢
  have E1 : Env w W1 (w.heap.size + 1 + 1) A bs cap 0 := ⟨⟨0, 0, Lc, Nat.le_refl _, by omega, by omega⟩, (SlcR.below hr b1).mono (by omega), grownAny b1 _⟩
  have hgl := Lc.lt
  have HG := Lib.hid (grownAny b1 (some (w.heap.size + 1 + 1)))
  have HBR := Lib.hid hr
  clear hr Lc b1
  refine (anyLog_any (w.heap.size + 1 + 1) A bs cap _ w W1 (by omega) E1).mono ?_
  rintro e W2 ⟨l, rfl, ⟨hs, -⟩, E2, gr⟩
  replace L2 := L2.kept gr (by intro e; injection e; omega)
  replace L3 := L3.kept gr (by intro e; injection e; omega)
  replace HG := Lib.hid (grown_trans HG.out gr)
  have hle : W1.heap.size ≤ W2.heap.size := gr.size
  clear gr E1
  go_upto_region 3 with fail
  have S := (⟨E2.alloc (.cells #[.string l.D, .string l.P, .int .i64 l.n] 36), Lies.new W2 36 #[.string l.D, .string l.P, .int .i64 l.n], L2.alloc (.cells #[.string l.D, .string l.P, .int .i64 l.n] 36), L3.alloc (.cells #[.string l.D, .string l.P, .int .i64 l.n] 36), grown_trans HG.out (World.grownBy_alloc W2 (.cells #[.string l.D, .string l.P, .int .i64 l.n] 36) (some (w.heap.size + 1 + 1)))⟩ : ASt w (W2.alloc (.cells #[.string l.D, .string l.P, .int .i64 l.n] 36)) (w.heap.size + 1 + 1) A bs cap _ W2.heap.size l)
  generalize W2.alloc (.cells #[.string l.D, .string l.P, .int .i64 l.n] 36) = W3 at S ⊢
  have h5 : (w.heap.size + 1 + 1) < W2.heap.size := by omega
  generalize W2.heap.size = g5 at S h5 ⊢
  clear E2 L2 L3 HG hle hgl
  go_wp2_with fail
  refine (one_env S.env 40 (by omega) (by omega)).mono ?_
  rintro e W4 ⟨q, rfl, E4, gr⟩
  have S4 := S.next E4 gr h5 (by omega)
  clear S gr E4
  go_upto_if 13 with fail
  go_cut [] (fun wx => ∃ (l : Lg) (m5 : Nat), LgB l ∧ m5 ≤ 10000 ∧ ASt w wx (w.heap.size + 1 + 1) A bs cap m5 g5 l)
  case first =>
    cases q
    · go_wp2_with fail
      go_meet
      case rel => exact ⟨l, _, hs, by omega, S4⟩
    · have L5 := S4.l5
      have f0 := L5.frozen 0
      have f1 := L5.frozen 1
      have f2 := L5.frozen 2
      have k0 := L5.cell 0
      have k1 := L5.cell 1
      have k2 := L5.cell 2
      simp only [List.getElem?_cons_zero, List.getElem?_cons_succ] at k0 k1 k2
      have S5 := S4.store ⟨⟨#[]⟩, ⟨#[]⟩, 0⟩ h5 (by omega)
      clear L5 S4 hs
      go_wp2_with fail
      generalize (((W4.setCell ⟨g5, 0, none⟩ (.string ⟨#[]⟩)).setCell ⟨g5, 1, none⟩ (.string ⟨#[]⟩)).setCell ⟨g5, 2, none⟩ (.int .i64 0)) = W5 at S5 ⊢
      refine (pick_env S5.env 2 (by omega) (by omega)).mono ?_
      rintro e W6 ⟨x, rfl, hx, E6, gr⟩
      have HS := Lib.hid (S5.next E6 gr h5 (by omega))
      clear S5 gr E6 k0 k1 k2
      have hw1 : IntKind.i64.wrap (59 + (x : Int)) = 59 + (x : Int) := IntWalk.i64_in _ (by omega)
      go_wp2_with fail
      go_loopw [6] (fun i wr => ∃ (k : Nat) (l : Lg), k ≤ 60 ∧ i = .int .i64 k ∧ Hid (LgW (60 - k) l) ∧ Hid (ASt w wr (w.heap.size + 1 + 1) A bs cap (0 + 2000 + 2 + 2) g5 l)) (fun i _ => (intOf i).toNat)
      case atStart => exact ⟨59 + x, ⟨⟨#[]⟩, ⟨#[]⟩, 0⟩, by omega, by simp, LgW.zero.mono (Nat.zero_le _), HS⟩
      case round =>
        clear HS hx hw1
        obtain ⟨k, l, hk, rfl, HW, HS⟩ := hrel
        by_cases hlt : 0 < k
        · obtain ⟨k, rfl⟩ : ∃ q, k = q + 1 := ⟨k - 1, by omega⟩
          clear hlt
          have hi0 : (0 : Int) < ((k + 1 : Nat) : Int) := by omega
          have L5 := HS.out.l5
          have k0 := L5.cell 0
          have k1 := L5.cell 1
          have k2 := L5.cell 2
          simp only [List.getElem?_cons_zero, List.getElem?_cons_succ] at k0 k1 k2
          clear L5
          go_wp2_with fail
          refine (specAppend_any l ⟨⟨#[120]⟩, ⟨#[]⟩⟩ wr (by have := HW.out.1; omega) (by decide) (by decide)).mono ?_
          rintro e W7 ⟨rfl, hb⟩
          have HW2 := Lib.hid ((HW.out.app ⟨⟨#[120]⟩, ⟨#[]⟩⟩).mono (show 60 - (k + 1) + 1 ≤ 60 - k by omega))
          have S7 := HS.out.next (HS.out.env.below hb) (grownAny hb _) h5 (by omega)
          clear HW HS hb k0 k1 k2
          generalize appLg l ⟨⟨#[120]⟩, ⟨#[]⟩⟩ = l2 at HW2 ⊢
          have L5 := S7.l5
          have k0 := L5.cell 0
          have k1 := L5.cell 1
          have k2 := L5.cell 2
          simp only [List.getElem?_cons_zero, List.getElem?_cons_succ] at k0 k1 k2
          have f0 := L5.frozen 0
          have f1 := L5.frozen 1
          have f2 := L5.frozen 2
          have HS := Lib.hid (S7.store l2 h5 (by omega))
          clear L5 S7
          go_wp2_with fail
          go_roundw
          case rel => exact ⟨k, l2, by omega, by go_num, HW2, HS⟩
          case measure => simp [intOf] <;> omega
        · obtain rfl : k = 0 := by omega
          clear hlt
          have hi0 : ¬ (0 : Int) < ((0 : Nat) : Int) := by omega
          go_wp2_with fail
          go_meet
          case rel => exact ⟨l, _, ⟨by have := HW.out.1; omega, by have := HW.out.2; omega, by have := HW.out.2; omega⟩, by omega, HS.out⟩
  case rest =>
    clear hs S4 l
    obtain ⟨l, m5, hs, hm5, S⟩ := hcut
    have L5 := S.l5
    have E5 := S.env
    have HG := Lib.hid S.gr
    have nx5 : g5 ∉ [(w.heap.size + 1 + 1), w.heap.size, (w.heap.size + 1)] := by simp only [List.mem_cons, List.not_mem_nil, or_false]; omega
    have hgl := E5.lt
    go_upto_region 9 with fail
    have HR0 : Hid (∀ p ∈ [Room.lies 3 w.heap.size 36 [.string ⟨#[]⟩, .string ⟨#[]⟩, .int .i64 0], Room.lies 4 (w.heap.size + 1) 45 [.string ⟨#[]⟩, .string ⟨#[]⟩]], p.blk ≠ some (w.heap.size + 1 + 1) ∧ p.P wc) := by
      intro p hp
      simp only [List.mem_cons, List.not_mem_nil, or_false] at hp
      rcases hp with rfl | rfl
      · exact ⟨by intro e; injection e; omega, S.l2⟩
      · exact ⟨by intro e; injection e; omega, S.l3⟩
    clear S
    refine wp_region_factsR (Dr w wc (w.heap.size + 1 + 1) A bs cap (m5) 8 5 [(w.heap.size + 1 + 1), w.heap.size, (w.heap.size + 1)] [Room.lies 3 w.heap.size 36 [.string ⟨#[]⟩, .string ⟨#[]⟩, .int .i64 0], Room.lies 4 (w.heap.size + 1) 45 [.string ⟨#[]⟩, .string ⟨#[]⟩]]) (fun i w1 w2 => i ∉ [3, 4] → w1.grownBy w2 (some (w.heap.size + 1 + 1))) (by kernel_rfl) (by kernel_rfl) (by kernel_rfl) (Dr.start E5 HR0.out) ?_
    simp only [fillOps, Act.put, List.setIfInBounds_toArray, List.set_cons_zero, List.set_cons_succ, Nat.zero_add, Nat.reduceAdd]
    apply wpFactsR_val
    case h1 =>
      intro vs L9 w9 hG9 hC9 hB K9 hK9
      have q0 : w9.cell? ⟨g5, 0, none⟩ = some (.string l.D) := (hC9.lies L5 nx5).cell 0
      have q1 : w9.cell? ⟨g5, 1, none⟩ = some (.string l.P) := (hC9.lies L5 nx5).cell 1
      have q2 : w9.cell? ⟨g5, 2, none⟩ = some (.int .i64 l.n) := (hC9.lies L5 nx5).cell 2
      simp only [Act.put, List.setIfInBounds_toArray, List.set_cons_zero, List.set_cons_succ] at hK9
      go_simp
      exact hK9 _ _ rfl (hC9.stay hG9.self (by decide)) (fun _ => World.grownBy.refl _ _)
    apply wpFactsR_val
    case h1 =>
      intro vs L9 w9 hG9 hC9 hB K9 hK9
      simp only [Act.put, List.setIfInBounds_toArray, List.set_cons_zero, List.set_cons_succ] at hK9
      go_simp
      exact hK9 _ _ rfl (hC9.stay hG9.self (by decide)) (fun _ => World.grownBy.refl _ _)
    refine wpFactsR_some [] (fun v _ => ∃ r : Rec, v = r.val ∧ (r.c.size ≤ 20 ∧ r.r.size ≤ 20)) ?_ (fun vs L9 w9 hG9 hC9 hB K9 hK9 => ?_) ?_
    next =>
      intro i9 hi9 hb9 ha9 v w1 w2 hv hT9
      exact hv
    next =>
      have d1 := FactN.eq (hB 1 _ (by kernel_rfl) (by kernel_rfl) rfl (by decide))
      simp only [d1] at hK9 ⊢
      simp only [Act.put, List.setIfInBounds_toArray, List.set_cons_zero, List.set_cons_succ] at hK9
      go_simp
      refine (logRecord_any (w.heap.size + 1 + 1) A bs cap _ w w9 (by have := hC9.cnt; omega) hC9.env).mono ?_
      rintro en w8 ⟨r8, rfl, hr8, hE8, hg8⟩
      exact hK9 _ _ _ rfl ⟨r8, rfl, hr8⟩ (hC9.call hG9.self (by decide) hE8 (by have := hC9.cnt; omega) hg8 (by simp)) (fun _ => hg8)
    refine wpFactsR_some [4] (fun _ w9 => Lies w9 w.heap.size 36 [.string l.D, .string l.P, .int .i64 l.n]) ?_ (fun vs L9 w9 hG9 hC9 hB K9 hK9 => ?_) ?_
    next =>
      intro i9 hi9 hb9 ha9 v w1 w2 hv hT9
      have hb := hT9 (fun hm => by
        simp only [List.mem_cons, List.not_mem_nil, or_false] at hm hb9
        rcases hm with rfl | rfl
        · exact hi9 rfl
        · exact hb9 (by simp))
      exact hv.kept hb (by intro e; injection e; omega)
    next =>
      have d0 := FactN.eq (hB 0 _ (by kernel_rfl) (by kernel_rfl) rfl (by decide))
      simp only [d0] at hK9 ⊢
      simp only [Act.put, List.setIfInBounds_toArray, List.set_cons_zero, List.set_cons_succ] at hK9
      have hL9 : Lies w9 w.heap.size 36 [.string ⟨#[]⟩, .string ⟨#[]⟩, .int .i64 0] := (hC9.room (Room.lies 3 w.heap.size 36 [.string ⟨#[]⟩, .string ⟨#[]⟩, .int .i64 0]) (by simp)).2 hG9.self
      have y0 := hL9.cell 0
      have y1 := hL9.cell 1
      have y2 := hL9.cell 2
      simp only [List.getElem?_cons_zero, List.getElem?_cons_succ] at y0 y1 y2
      have f0 := hL9.frozen 0
      have f1 := hL9.frozen 1
      have f2 := hL9.frozen 2
      have hN9 : Lies _ w.heap.size 36 [.string l.D, .string l.P, .int .i64 l.n] := (((hL9.set 0 (.string l.D)).set 1 (.string l.P)).set 2 (.int .i64 l.n))
      have hG8 := Lib.hid (grown_set (g := w.heap.size) (i := 2) (u := .int .i64 l.n) (grown_set (g := w.heap.size) (i := 1) (u := .string l.P) (grown_set (g := w.heap.size) (i := 0) (u := .string l.D) (World.grownBy.refl w9 (some w.heap.size)))))
      have hN8 := Lib.hid hN9
      clear hN9 hL9
      go_simp
      exact hK9 _ undef _ rfl hN8.out (hC9.wroteB hG9.self (by decide) hG8.out (by omega) (drawn_bytes HBR.out HG.out hC9 (by intro k hk; simp only [List.mem_cons, List.not_mem_nil, or_false] at hk; omega) hG8.out (by omega) (by omega)) (by omega) (.inl (by simp)) (by intro p hp e; simp only [List.mem_cons, List.not_mem_nil, or_false] at hp; rcases hp with rfl | rfl <;> first | rfl | exact absurd (Option.some.inj e) (by omega))) (fun hq => (hq (by decide)).elim)
    refine wpFactsR_some [] (fun _ w9 => ∃ r : Rec, (r.c.size ≤ 20 ∧ r.r.size ≤ 20) ∧ Lies w9 (w.heap.size + 1) 45 [.string r.c, .string r.r] ∧ Lies w9 w.heap.size 36 [.string l.D, .string l.P, .int .i64 l.n]) ?_ (fun vs L9 w9 hG9 hC9 hB K9 hK9 => ?_) ?_
    next =>
      intro i9 hi9 hb9 ha9 v w1 w2 hv hT9
      have hb := hT9 (fun hm => by
        simp only [List.mem_cons, List.not_mem_nil, or_false] at hm hb9
        rcases hm with rfl | rfl
        · exact absurd (ha9.symm.trans (show ahead .any _ _ _ _ = true by kernel_rfl)) (by decide)
        · exact hi9 rfl)
      obtain ⟨r, q1, q2, q3⟩ := hv
      exact ⟨r, q1, q2.kept hb (by intro e; injection e; omega), q3.kept hb (by intro e; injection e; omega)⟩
    next =>
      simp only [Act.put, List.setIfInBounds_toArray, List.set_cons_zero, List.set_cons_succ] at hK9
      obtain ⟨r2, e2, er2⟩ := hB 2 _ (by kernel_rfl) (by kernel_rfl) rfl (by decide)
      simp only [e2] at hK9 ⊢
      have h3f := hB 3 _ (by kernel_rfl) (by kernel_rfl) rfl (by decide)
      have h3f : Lies w9 w.heap.size 36 [.string l.D, .string l.P, .int .i64 l.n] := h3f
      have h3f := Lib.hid h3f
      have hL9 : Lies w9 (w.heap.size + 1) 45 [.string ⟨#[]⟩, .string ⟨#[]⟩] := (hC9.room (Room.lies 4 (w.heap.size + 1) 45 [.string ⟨#[]⟩, .string ⟨#[]⟩]) (by simp)).2 hG9.self
      have y0 := hL9.cell 0
      have y1 := hL9.cell 1
      simp only [List.getElem?_cons_zero, List.getElem?_cons_succ] at y0 y1
      have f0 := hL9.frozen 0
      have f1 := hL9.frozen 1
      have hN9 : Lies _ (w.heap.size + 1) 45 [.string r2.c, .string r2.r] := ((hL9.set 0 (.string r2.c)).set 1 (.string r2.r))
      have hG8 := Lib.hid (grown_set (g := (w.heap.size + 1)) (i := 1) (u := .string r2.r) (grown_set (g := (w.heap.size + 1)) (i := 0) (u := .string r2.c) (World.grownBy.refl w9 (some (w.heap.size + 1)))))
      have hN8 := Lib.hid hN9
      clear hN9 hL9
      go_simp
      exact hK9 _ undef _ rfl ⟨r2, er2, hN8.out, h3f.out.kept hG8.out (by intro e; injection e; omega)⟩ (hC9.wroteB hG9.self (by decide) hG8.out (by omega) (drawn_bytes HBR.out HG.out hC9 (by intro k hk; simp only [List.mem_cons, List.not_mem_nil, or_false] at hk; omega) hG8.out (by omega) (by omega)) (by omega) (.inl (by simp)) (by intro p hp e; simp only [List.mem_cons, List.not_mem_nil, or_false] at hp; rcases hp with rfl | rfl <;> first | rfl | exact absurd (Option.some.inj e) (by omega))) (fun hq => (hq (by decide)).elim)
    refine wpFactsR_nil fun vs Lq W6 hL9 hC6 hB => ?_
    obtain ⟨r, hrs, hZ, hY⟩ := hB 4 _ rfl rfl (by decide)
    clear hB hL9
    have hY : Lies W6 w.heap.size 36 [.string l.D, .string l.P, .int .i64 l.n] := hY
    have hZ : Lies W6 (w.heap.size + 1) 45 [.string r.c, .string r.r] := hZ
    have BB := grown_belowR (drawn_gr HG.out hC6 (by intro k hk hne; simp only [List.mem_cons, List.not_mem_nil, or_false] at hk; omega) E5) (by omega)
    have z0 := hY.cell 0
    have z1 := hY.cell 1
    have z2 := hY.cell 2
    simp only [List.getElem?_cons_zero, List.getElem?_cons_succ] at z0 z1 z2
    have y0 := hZ.cell 0
    have y1 := hZ.cell 1
    simp only [List.getElem?_cons_zero, List.getElem?_cons_succ] at y0 y1
    clear hC6 HR0 E5 L5
    go_wp2_with fail
    refine bodyPost_ret (v := .tuple #[l.val, r.val]) (by simp [results, Tryd.results13, go_sem, *]) rfl ?_
    exact ⟨l, r, rfl, hs, hrs, BB⟩

end Go.Proofs.YtojceibamgodbaaDoor

/- A log with one more line (no program in sight). -/
namespace Go.Proofs.YtojceibamgodbaaDoor
open Go.RowKit

/-- One encoded line by itself. -/
theorem openF_line {n k : Nat} {c r : List UInt8} (h : recOk c r = true) : openF (n + 1) k (lineL k c r) = [((c, r), (lineL k c r).length)] := by
  have hb : bef 10 (lineL k c r) = sealL (txtL k c r) := by unfold lineL; exact bef_mid (seal_nl h)
  have h1 : (10 : UInt8) ∈ lineL k c r := by unfold lineL; simp
  have hl : (sealL (txtL k c r)).length + 1 = (lineL k c r).length := by unfold lineL; simp
  rw [openF_yes h1 (by rw [hb]; exact decF_some ⟨h, rfl⟩), hb, hl, List.drop_eq_nil_of_le (Nat.le_refl _), openF_no (by simp)]
/-- A log that is read whole, with the line that comes next. -/
theorem openF_app {c r : List UInt8} (h : recOk c r = true) : ∀ (n k : Nat) (s : List UInt8), lens (openF n k s) = s.length → (openF n k s).length < n →
    openF n k (s ++ lineL (k + (openF n k s).length) c r) = openF n k s ++ [((c, r), (lineL (k + (openF n k s).length) c r).length)]
  | 0, _, _, _, h2 => absurd h2 (by omega)
  | n + 1, k, s, h1, h2 => by
    by_cases hs : (10 : UInt8) ∈ s
    · cases hd : decF k (bef 10 s) with
      | none =>
        rw [openF_bad hd] at h1
        have : s = [] := List.eq_nil_of_length_eq_zero (by rw [← h1]; simp [lens])
        rw [this] at hs; cases hs
      | some e =>
        have e1 := parts_bef hs
        have hlen : (bef 10 s).length + 1 ≤ s.length := by have := congrArg List.length e1; simp at this; omega
        have ey := openF_yes (n := n) hs hd
        rw [ey, lens_cons] at h1
        rw [ey, List.length_cons] at h2
        have ih := openF_app h n (k + 1) (s.drop ((bef 10 s).length + 1)) (by rw [List.length_drop]; simp only at h1; omega) (by omega)
        have hk : k + (openF (n + 1) k s).length = k + 1 + (openF n (k + 1) (s.drop ((bef 10 s).length + 1))).length := by rw [ey, List.length_cons]; omega
        rw [hk]
        generalize lineL (k + 1 + (openF n (k + 1) (s.drop ((bef 10 s).length + 1))).length) c r = x at ih ⊢
        have hb : bef 10 (s ++ x) = bef 10 s := by
          rw (occs := [1]) [e1]
          rw [List.append_assoc, List.cons_append]; exact bef_mid (bef_not 10 s)
        rw [openF_yes (by simp [hs]) (by rw [hb]; exact hd), hb, List.drop_append_of_le_length hlen, ih, ey]
        rfl
    · have hn : openF (n + 1) k s = [] := openF_no hs
      rw [hn] at h1
      have : s = [] := List.eq_nil_of_length_eq_zero (by rw [← h1]; simp [lens])
      subst this
      rw [hn]
      simp only [List.length_nil, Nat.add_zero, List.nil_append]
      exact openF_line h
end Go.Proofs.YtojceibamgodbaaDoor

/- The records at the start of a log's bytes: what stays of them when the text is cut or goes on (no program in sight). -/
namespace Go.Proofs.YtojceibamgodbaaDoor
open Go.RowKit

theorem bef_app {b : UInt8} {s : List UInt8} (h : b ∈ s) (x : List UInt8) : bef b (s ++ x) = bef b s := by
  rw (occs := [1]) [parts_bef h]
  rw [List.append_assoc, List.cons_append]; exact bef_mid (bef_not b s)
theorem bef_lt {b : UInt8} {s : List UInt8} (h : b ∈ s) : (bef b s).length + 1 ≤ s.length := by
  have := congrArg List.length (parts_bef h); simp at this; omega
theorem lens_pre {l l' : List ((List UInt8 × List UInt8) × Nat)} (h : l <+: l') : lens l ≤ lens l' := by
  obtain ⟨t, rfl⟩ := h
  unfold lens; rw [List.map_append, List.sum_append]; omega
/-- What is read at the start of a text is read whatever follows. -/
theorem openF_more : ∀ (n k : Nat) (s x : List UInt8), openF n k s <+: openF n k (s ++ x)
  | 0, _, _, _ => by simp [openF]
  | n + 1, k, s, x => by
    by_cases h1 : (10 : UInt8) ∈ s
    · cases h2 : decF k (bef 10 s) with
      | none => rw [openF_bad h2]; exact List.nil_prefix
      | some e =>
        rw [openF_yes h1 h2, openF_yes (s := s ++ x) (by simp [h1]) (by rw [bef_app h1]; exact h2), bef_app h1, List.drop_append_of_le_length (bef_lt h1)]
        exact (List.cons_prefix_cons).2 ⟨rfl, openF_more n (k + 1) _ x⟩
    · rw [openF_no h1]; exact List.nil_prefix
/-- A text that is cut, with bytes behind that are no newline, gives no record that the text does not give. -/
theorem openF_cut {x : List UInt8} (hx : (10 : UInt8) ∉ x) : ∀ (n k : Nat) (s : List UInt8) (j : Nat), openF n k (s.take j ++ x) <+: openF n k s
  | 0, _, _, _ => by simp [openF]
  | n + 1, k, s, j => by
    by_cases h1 : (10 : UInt8) ∈ s.take j
    · have e1 : bef 10 (s.take j ++ x) = bef 10 (s.take j) := bef_app h1 x
      have e2 : bef 10 s = bef 10 (s.take j) := by have := bef_app h1 (s.drop j); rwa [List.take_append_drop] at this
      have hl := bef_lt h1
      cases h2 : decF k (bef 10 (s.take j)) with
      | none => rw [openF_bad (s := s.take j ++ x) (by rw [e1]; exact h2)]; exact List.nil_prefix
      | some e =>
        rw [openF_yes (s := s.take j ++ x) (by simp [h1]) (by rw [e1]; exact h2), openF_yes (s := s) (List.mem_of_mem_take h1) (by rw [e2]; exact h2), e1, e2, List.drop_append_of_le_length hl, List.drop_take]
        exact (List.cons_prefix_cons).2 ⟨rfl, openF_cut hx n (k + 1) _ _⟩
    · rw [openF_no (s := s.take j ++ x) (by simp only [List.mem_append, not_or]; exact ⟨h1, hx⟩)]; exact List.nil_prefix
/-- The bytes that were read, read by themselves. -/
theorem openF_take : ∀ (n k : Nat) (s : List UInt8), openF n k (s.take (lens (openF n k s))) = openF n k s
  | 0, _, _ => by simp [openF]
  | n + 1, k, s => by
    by_cases h1 : (10 : UInt8) ∈ s
    · cases h2 : decF k (bef 10 s) with
      | none => rw [openF_bad h2]; simp only [lens, List.map_nil, List.sum_nil, List.take_zero]; exact openF_no (by simp)
      | some e =>
        have ih := openF_take n (k + 1) (s.drop ((bef 10 s).length + 1))
        have ey := openF_yes (n := n) h1 h2
        rw [ey, lens_cons]
        simp only
        generalize lens (openF n (k + 1) (s.drop ((bef 10 s).length + 1))) = L at ih ⊢
        have hp := parts_bef h1
        have ht : s.take ((bef 10 s).length + 1 + L) = bef 10 s ++ 10 :: (s.drop ((bef 10 s).length + 1)).take L := by
          rw (occs := [2]) [hp]
          generalize bef 10 s = p
          generalize s.drop (p.length + 1) = q
          rw [show p.length + 1 + L = p.length + (1 + L) by omega, List.take_append, List.take_of_length_le (by omega), show p.length + (1 + L) - p.length = L + 1 by omega, List.take_succ_cons]
        have hb : bef 10 (s.take ((bef 10 s).length + 1 + L)) = bef 10 s := by rw [ht]; exact bef_mid (bef_not 10 s)
        have hm : (10 : UInt8) ∈ s.take ((bef 10 s).length + 1 + L) := by rw [ht]; simp
        rw [openF_yes hm (by rw [hb]; exact h2), hb, ht]
        rw [show (bef 10 s ++ 10 :: (s.drop ((bef 10 s).length + 1)).take L).drop ((bef 10 s).length + 1) = (s.drop ((bef 10 s).length + 1)).take L by
          rw [List.drop_append, List.drop_eq_nil_of_le (by omega), show (bef 10 s).length + 1 - (bef 10 s).length = 1 by omega]; rfl]
        rw [ih]
    · rw [openF_no h1]; simp only [lens, List.map_nil, List.sum_nil, List.take_zero]; exact openF_no (by simp)
theorem logOk_recovered (s : List UInt8) : logOk (s.take (lens (openF 60 0 s))) [] ((openF 60 0 s).length : Nat) = true := by
  have hr := openF_room 60 0 s
  rw [logOk_iff, List.append_nil, openF_take]
  refine ⟨?_, ?_, rfl⟩ <;> (simp only [List.length_take, List.length_nil]; omega)
/-- All bytes of a text that is read whole are small. -/
theorem seal_small {k : Nat} {c r : List UInt8} (h : recOk c r = true) : ∀ b ∈ sealL (txtL k c r), b.toNat ≤ 126 := by
  obtain ⟨_, _, h1, _, h2, _⟩ := recOk_iff.1 h
  have pl : ∀ {l : List UInt8}, plainL l = true → ∀ b ∈ l, b.toNat ≤ 126 := fun {l} hl b hb => by
    have := (List.all_eq_true.1 hl) b hb
    unfold plainB at this
    simp only [Bool.and_eq_true, decide_eq_true_eq] at this
    exact this.1.2
  have it : ∀ (n : Nat), ∀ b ∈ Lib.itoa (n : Int), b.toNat ≤ 126 := fun n b hb => by
    rw [itoa_nat] at hb
    have := dec_bytes n b hb; omega
  intro b hb
  unfold sealL txtL at hb
  simp only [List.mem_append, List.mem_cons, List.not_mem_nil, or_false] at hb
  rcases hb with ((((hb | rfl) | hb) | rfl) | hb) | (rfl | hb)
  · exact it _ b hb
  · decide
  · exact pl h1 b hb
  · decide
  · exact pl h2 b hb
  · decide
  · exact it _ b hb
theorem openF_bytes : ∀ (n k : Nat) (s : List UInt8), lens (openF n k s) = s.length → ∀ b ∈ s, b.toNat ≤ 126
  | 0, k, s, h, b, hb => by
    have : s = [] := List.eq_nil_of_length_eq_zero (by rw [← h]; simp [openF, lens])
    rw [this] at hb; cases hb
  | n + 1, k, s, h, b, hb => by
    by_cases h1 : (10 : UInt8) ∈ s
    · cases h2 : decF k (bef 10 s) with
      | none =>
        rw [openF_bad h2] at h
        have : s = [] := List.eq_nil_of_length_eq_zero (by rw [← h]; simp [lens])
        rw [this] at hb; cases hb
      | some e =>
        rw [openF_yes h1 h2, lens_cons] at h
        simp only at h
        have hl := bef_lt h1
        have ih := openF_bytes n (k + 1) (s.drop ((bef 10 s).length + 1)) (by rw [List.length_drop]; omega)
        rw [parts_bef h1] at hb
        simp only [List.mem_append, List.mem_cons] at hb
        obtain ⟨c, r⟩ := e
        have he := decF_enc h2
        rcases hb with hb | rfl | hb
        · rw [← he.2] at hb; exact seal_small he.1 b hb
        · decide
        · exact ih b hb
    · rw [openF_no h1] at h
      have : s = [] := List.eq_nil_of_length_eq_zero (by rw [← h]; simp [lens])
      rw [this] at hb; cases hb
/-- Another number's line is not the first. -/
theorem openF_line_not {n k : Nat} {c r : List UInt8} (h : recOk c r = true) (hk : k ≠ 0) : openF n 0 (lineL k c r) = [] := by
  refine openF_bad (decF_none fun c' r' he => hk ?_)
  have hb : bef 10 (lineL k c r) = sealL (txtL k c r) := by unfold lineL; exact bef_mid (seal_nl h)
  rw [hb] at he
  have e : txtL 0 c' r' = txtL k c r := by rw [← seal_bef (txt_free he.1), ← seal_bef (txt_free h), he.2]
  have q0 : (32 : UInt8) ∉ Lib.itoa ((0 : Nat) : Int) := itoa_free (by decide)
  have qk : (32 : UInt8) ∉ Lib.itoa (k : Int) := itoa_free (by decide)
  have e1 : bef 32 (txtL 0 c' r') = Lib.itoa ((0 : Nat) : Int) := by unfold txtL; simp only [List.append_assoc, List.singleton_append]; exact bef_mid q0
  have e2 : bef 32 (txtL k c r) = Lib.itoa (k : Int) := by unfold txtL; simp only [List.append_assoc, List.singleton_append]; exact bef_mid qk
  rw [e, e2] at e1
  rw [itoa_nat, itoa_nat] at e1
  by_cases hs : k < 10
  · rw [Lib.decDigits, dif_pos hs, Lib.decDigits, dif_pos (by decide)] at e1
    injection e1 with e1
    have := congrArg UInt8.toNat e1
    simp only [UInt8.toNat_ofNat'] at this
    omega
  · have h3 := congrArg List.length e1
    rw [Lib.decDigits, dif_neg hs, List.length_append] at h3
    have h5 : Lib.decDigits 0 = [UInt8.ofNat (48 + 0)] := by rw [Lib.decDigits, dif_pos (by decide)]
    rw [h5] at h3
    simp only [List.length_cons, List.length_nil] at h3
    have h4 : 0 < (Lib.decDigits (k / 10)).length := by
      rw [Lib.decDigits]; split <;> simp
    omega
end Go.Proofs.YtojceibamgodbaaDoor

/- RecoverLog: both sides and the law. -/
namespace Go.Proofs.YtojceibamgodbaaDoor
open Go.RowKit

theorem extract_all (s : ByteArray) (n : Nat) : s.extract 0 n = ⟨((bl s).take n).toArray⟩ := by
  refine bl_ext ?_; rw [bl_extract, List.drop_zero, bl_mk]

def recOkS (s : ByteArray) : Bool := decide (s.size ≤ 30000)
/-- What recovering gives. -/
noncomputable def recLen (s : ByteArray) : Nat := if recOkS s then lens (openF 60 0 (bl s)) else 0
noncomputable def recLg (s : ByteArray) : Lg := if recOkS s then ⟨s.extract 0 (lens (openF 60 0 (bl s))), ⟨#[]⟩, ((openF 60 0 (bl s)).length : Nat)⟩ else ⟨⟨#[]⟩, ⟨#[]⟩, 0⟩

set_option maxRecDepth 100000 in
set_option maxHeartbeats 2000000 in
theorem specRecover_any (s : ByteArray) (w : World) (hs : s.size ≤ 2000000) :
    Calls Tryd.prog 31 #[.string s] w fun e w' => e = .returned (.tuple #[(recLg s).val, .int .i64 (recLen s : Nat), .bool (recOkS s)]) ∧ Below w.heap.size w w' := by
  have b1 := (Below.refl w.heap.size w).alloc (Nat.le_refl _) (.cells #[.string ⟨#[]⟩, .string ⟨#[]⟩, .int .i64 0] 36)
  have L1 := Lies.new w 36 #[.string ⟨#[]⟩, .string ⟨#[]⟩, .int .i64 0]
  by_cases hbig : 30000 < s.size
  · have HK : Hid (recOkS s = false) := decide_eq_false (by omega)
    have HG : Hid (recLg s = ⟨⟨#[]⟩, ⟨#[]⟩, 0⟩) := by unfold recLg Hid; rw [HK.out]; rfl
    have HL : Hid (recLen s = 0) := by unfold recLen Hid; rw [HK.out]; rfl
    have d0 : decide (30000 < (s.size : Int)) = true := decide_eq_true (by omega)
    clear hbig
    go_enter Tryd.func31, Tryd.ntmps31
    go_wp2_with fail
    refine bodyPost_ret (v := .tuple #[.agg #[.string ⟨#[]⟩, .string ⟨#[]⟩, .int .i64 0], .int .i64 0, .bool false]) (by simp [results, Tryd.results31, go_sem, *]) rfl ⟨by rw [HK.out, HG.out, HL.out]; rfl, ?_⟩
    repeat (first | exact Below.refl _ _ | refine Below.alloc ?_ (by simp; try omega) _ | refine Below.setCell ?_ (by simp; try omega) _)
  · have HK : Hid (recOkS s = true) := decide_eq_true (by omega)
    have d0 : decide (30000 < (s.size : Int)) = false := decide_eq_false (by omega)
    have HA := Lib.hid (fun W => l33Open_any s W (by omega))
    have hroom := openF_room 60 0 (bl s)
    have hlen := openF_length 60 0 (bl s)
    rw [bl_size] at hroom
    obtain ⟨k0, hk0⟩ : ∃ k0, k0 = (openF 60 0 (bl s)).length := ⟨_, rfl⟩
    obtain ⟨z, hzz⟩ : ∃ z, z = lens (openF 60 0 (bl s)) := ⟨_, rfl⟩
    have HA2 : Hid (∀ W, Calls Tryd.prog 53 #[.string s] W fun e w' => ∃ A c k, k = k0 ∧ e = .returned (.tuple #[.slice A k c, .int .i64 (z : Nat)]) ∧ Below W.heap.size W w') := fun W => by
      refine (HA.out W).mono ?_
      rintro e w' ⟨A, c, m, rfl, hm, _, hb⟩
      exact ⟨A, c, m.length, by rw [recsOf_len hm, hk0], by rw [hzz], hb⟩
    have HG : Hid (recLg s = ⟨s.extract 0 z, ⟨#[]⟩, (k0 : Nat)⟩) := by unfold recLg Hid; rw [HK.out, if_pos rfl, hk0, hzz]
    have HL : Hid (recLen s = z) := by unfold recLen Hid; rw [HK.out, if_pos rfl, hzz]
    rw [← hzz] at hroom
    rw [← hk0] at hlen
    clear hzz hk0 HA hbig
    have i1 : (z : Int) ≤ (s.size : Int) := by omega
    go_enter Tryd.func31, Tryd.ntmps31
    go_wp2_with fail
    generalize w.alloc (.cells #[.string ⟨#[]⟩, .string ⟨#[]⟩, .int .i64 0] 36) = W at b1 L1 ⊢
    generalize hg : w.heap.size = g at L1 ⊢
    refine (HA2.out _).mono ?_
    rintro e w2 ⟨A, c, k, rfl, rfl, hb2⟩
    have L2 := L1.below hb2 L1.lt
    have c0 := L2.cell 0
    have c1 := L2.cell 1
    have c2 := L2.cell 2
    have f0 := L2.frozen 0
    have f1 := L2.frozen 1
    have f2 := L2.frozen 2
    have hgl := L2.lt
    simp only [List.getElem?_cons_zero, List.getElem?_cons_succ] at c0 c1 c2
    clear L1 L2
    go_wp2_with fail
    refine bodyPost_ret (v := .tuple #[.agg #[.string (s.extract 0 z), .string ⟨#[]⟩, .int .i64 (k : Nat)], .int .i64 (z : Nat), .bool true]) (by simp [results, Tryd.results31, go_sem, *]) rfl ⟨by rw [HK.out, HG.out, HL.out], ?_⟩
    rw [← hg] at *
    exact (bthen b1 hb2).trans (by repeat (first | exact Below.refl _ _ | refine Below.alloc ?_ (by simp; have := b1.size; have := hb2.size; omega) _ | refine Below.setCell ?_ (by simp) _))

set_option maxRecDepth 100000 in
set_option maxHeartbeats 2000000 in
theorem implRecover_any (s : ByteArray) (w : World) (hs : s.size ≤ 2000000) (ht : Tab w) :
    Calls Tryd.prog 21 #[.string s] w fun e w' => e = .returned (.tuple #[(recLg s).val, .int .i64 (recLen s : Nat), .bool (recOkS s)]) ∧ Below w.heap.size w w' := by
  have b1 := (Below.refl w.heap.size w).alloc (Nat.le_refl _) (.cells #[.string ⟨#[]⟩, .string ⟨#[]⟩, .int .i64 0] 36)
  have L1 := Lies.new w 36 #[.string ⟨#[]⟩, .string ⟨#[]⟩, .int .i64 0]
  have ht1 := ht.then b1
  by_cases hbig : 30000 < s.size
  · have HK : Hid (recOkS s = false) := decide_eq_false (by omega)
    have HG : Hid (recLg s = ⟨⟨#[]⟩, ⟨#[]⟩, 0⟩) := by unfold recLg Hid; rw [HK.out]; rfl
    have HL : Hid (recLen s = 0) := by unfold recLen Hid; rw [HK.out]; rfl
    have d0 : decide (30000 < (s.size : Int)) = true := decide_eq_true (by omega)
    clear hbig
    go_enter Tryd.func21, Tryd.ntmps21
    go_wp2_with fail
    refine bodyPost_ret (v := .tuple #[.agg #[.string ⟨#[]⟩, .string ⟨#[]⟩, .int .i64 0], .int .i64 0, .bool false]) (by simp [results, Tryd.results21, go_sem, *]) rfl ⟨by rw [HK.out, HG.out, HL.out]; rfl, ?_⟩
    repeat (first | exact Below.refl _ _ | refine Below.alloc ?_ (by simp; try omega) _ | refine Below.setCell ?_ (by simp; try omega) _)
  · have HK : Hid (recOkS s = true) := decide_eq_true (by omega)
    have d0 : decide (30000 < (s.size : Int)) = false := decide_eq_false (by omega)
    have HA := Lib.hid (fun W hW => readRecords_any s W (by omega) hW)
    have hroom := openF_room 60 0 (bl s)
    have hlen := openF_length 60 0 (bl s)
    rw [bl_size] at hroom
    obtain ⟨k0, hk0⟩ : ∃ k0, k0 = (openF 60 0 (bl s)).length := ⟨_, rfl⟩
    obtain ⟨z, hzz⟩ : ∃ z, z = lens (openF 60 0 (bl s)) := ⟨_, rfl⟩
    have HA2 : Hid (∀ W, Tab W → Calls Tryd.prog 50 #[.string s] W fun e w' => ∃ A c A' c' k g, k = k0 ∧ A' = some ⟨g, 0, none⟩ ∧ e = .returned (.tuple #[.slice A k c, .slice A' (k + 1) c']) ∧ w'.cell? ⟨g, k, none⟩ = some (.int .i64 (z : Nat)) ∧ g < w'.heap.size ∧ W.heap.size ≤ g ∧ Below W.heap.size W w') := fun W hW => by
      refine (HA.out W hW).mono ?_
      rintro e w' ⟨A, c, A', c', m, rfl, hm, _, hO, hb⟩
      have hml := recsOf_len hm
      obtain ⟨g, hA, h1, h2, hc⟩ := ends_facts hO (by rw [endsF_length, hml]) (by omega)
      refine ⟨A, c, A', c', m.length, g, by rw [hml, hk0], hA, rfl, ?_, h2, h1, hb⟩
      have h3 := hc m.length (by omega)
      have h4 := endsF_last 0 (openF 60 0 (bl s))
      rw [h3, hml, List.getD_eq_getElem?_getD, h4, hzz, Nat.zero_add]
      rfl
    have HG : Hid (recLg s = ⟨s.extract 0 z, ⟨#[]⟩, (k0 : Nat)⟩) := by unfold recLg Hid; rw [HK.out, if_pos rfl, hk0, hzz]
    have HL : Hid (recLen s = z) := by unfold recLen Hid; rw [HK.out, if_pos rfl, hzz]
    rw [← hzz] at hroom
    rw [← hk0] at hlen
    clear hzz hk0 HA hbig
    have i1 : (z : Int) ≤ (s.size : Int) := by omega
    go_enter Tryd.func21, Tryd.ntmps21
    go_wp2_with fail
    generalize w.alloc (.cells #[.string ⟨#[]⟩, .string ⟨#[]⟩, .int .i64 0] 36) = W at b1 L1 ht1 ⊢
    generalize hg : w.heap.size = g at L1 ⊢
    refine (HA2.out _ ht1).mono ?_
    rintro e w2 ⟨A, c, A', c', k, g', rfl, rfl, rfl, hcz, _, _, hb2⟩
    have L2 := L1.below hb2 L1.lt
    have c0 := L2.cell 0
    have c1 := L2.cell 1
    have c2 := L2.cell 2
    have f0 := L2.frozen 0
    have f1 := L2.frozen 1
    have f2 := L2.frozen 2
    have hgl := L2.lt
    simp only [List.getElem?_cons_zero, List.getElem?_cons_succ] at c0 c1 c2
    clear L1 L2
    go_wp2_with fail
    refine bodyPost_ret (v := .tuple #[.agg #[.string (s.extract 0 z), .string ⟨#[]⟩, .int .i64 (k : Nat)], .int .i64 (z : Nat), .bool true]) (by simp [results, Tryd.results21, go_sem, *]) rfl ⟨by rw [HK.out, HG.out, HL.out], ?_⟩
    rw [← hg] at *
    exact (bthen b1 hb2).trans (by repeat (first | exact Below.refl _ _ | refine Below.alloc ?_ (by simp; have := b1.size; have := hb2.size; omega) _ | refine Below.setCell ?_ (by simp) _))

end Go.Proofs.YtojceibamgodbaaDoor

/- Marks that are texts (markText). -/
namespace Go.Proofs.YtojceibamgodbaaDoor
open Go.RowKit

def digB (k : Nat) : UInt8 := UInt8.ofNat (48 + k % 10)
theorem digB_nat (k : Nat) : ((digB k).toNat : Int) = 48 + (k : Int) % 10 := by
  unfold digB
  have h : 48 + k % 10 < 256 := by have := Nat.mod_lt k (show 0 < 10 by omega); omega
  rw [UInt8.toNat_ofNat_of_lt' (by simpa using h)]; omega
def mkL : Nat → Nat → List UInt8 → List UInt8
  | 0, _, o => o
  | f + 1, k, o => if k = 0 then o else mkL f (k / 10) (digB k :: o)
theorem mkL_zero : ∀ (f : Nat) (o : List UInt8), mkL f 0 o = o
  | 0, _ => rfl
  | f + 1, o => by simp [mkL]
def mkT (k : Nat) : ByteArray := ⟨#[109]⟩ ++ ⟨(mkL 10 k []).toArray⟩

end Go.Proofs.YtojceibamgodbaaDoor

/- Rows of records in the laws: likeness, marks, their reading. -/
namespace Go.Proofs.YtojceibamgodbaaDoor
open Go.RowKit

def RecsR (w : World) (B : Nat) (A : Option Addr) (m : List Rec) : Prop := SlcR w B 2 A m.length (m.flatMap Rec.enc)
theorem RecsR.of {w : World} {B c : Nat} {A : Option Addr} {m : List Rec} (h : w.ownsRow B 45 2 (.slice A m.length c) m.length (m.flatMap Rec.enc)) : RecsR w w.heap.size A m := (OwnS.of h).reads
theorem RecsR.then {w w' : World} {A : Option Addr} {m : List Rec} (h : RecsR w w.heap.size A m) (hb : Below w.heap.size w w') : RecsR w' w'.heap.size A m := SlcR.then h hb
theorem RecsR.cells {w : World} {B : Nat} {A : Option Addr} {m : List Rec} (h : RecsR w B A m) (hne : 0 < m.length) : ∃ b off, A = some ⟨b, off, none⟩ ∧ b < B ∧ ∀ i (hi : i < m.length) (p : Since B w),
    p.val.cell? ⟨b, off + i * 2, none⟩ = some (.string m[i].c) ∧ p.val.cell? ⟨b, off + i * 2 + 1, none⟩ = some (.string m[i].r) := by
  obtain ⟨b, off, e, hb, hc⟩ := SlcR.at_ h hne
  refine ⟨b, off, e, hb, fun i hi p => ?_⟩
  have key : ∀ j, j < 2 → ∀ u, (m[i].enc)[j]? = some u → p.val.cell? ⟨b, off + i * 2 + j, none⟩ = some u := fun j hj u hu => by
    rw [p.cell hb, Nat.add_assoc]
    exact hc _ u (by rw [flat_at Rec.enc 2 Rec.enc_len m i hi j hj]; exact hu)
  exact ⟨key 0 (by omega) _ rfl, key 1 (by omega) _ rfl⟩

/-! ### Marks -/
def markedR : Nat → List Rec → List Rec
  | _, [] => []
  | k, _ :: l => ⟨mkT k, mkT (k + 1)⟩ :: markedR (k + 2) l
theorem markedR_len : ∀ (k : Nat) (l : List Rec), (markedR k l).length = l.length
  | _, [] => rfl
  | k, x :: l => by simp [markedR, markedR_len (k + 2) l]
theorem markedR_at : ∀ (k : Nat) (l : List Rec) (j : Nat) (h : j < (markedR k l).length), (markedR k l)[j] = ⟨mkT (k + 2 * j), mkT (k + 2 * j + 1)⟩
  | k, [], j, h => by simp [markedR] at h
  | k, x :: l, 0, _ => by simp [markedR]
  | k, x :: l, j + 1, h => by
    simp only [markedR, List.getElem_cons_succ]
    rw [markedR_at (k + 2) l j (by simpa [markedR] using h)]
    have e : k + 2 + 2 * j = k + 2 * (j + 1) := by omega
    rw [e]
theorem flat2_set : ∀ {l : List Rec} {i : Nat} (_ : i < l.length) (a b : ByteArray), ((l.flatMap Rec.enc).set (i * 2) (.string a)).set (i * 2 + 1) (.string b) = (l.set i ⟨a, b⟩).flatMap Rec.enc
  | x :: l, 0, _, a, b => by simp [Rec.enc]
  | x :: l, i + 1, h, a, b => by
    have e : (i + 1) * 2 = i * 2 + 1 + 1 := by omega
    rw [e]
    simp only [List.flatMap_cons, Rec.enc, List.cons_append, List.nil_append, List.set_cons_succ]
    rw [flat2_set (l := l) (by simpa using h) a b]
theorem mixR_set {M l : List Rec} {j : Nat} (hM : M.length = l.length) (h : j < l.length) (h' : j < M.length) : (M.take j ++ l.drop j).set j M[j] = M.take (j + 1) ++ l.drop (j + 1) := by
  have e : (M.take j).length = j := by rw [List.length_take]; omega
  rw [List.set_append_right _ _ (by omega), e, Nat.sub_self, List.drop_eq_getElem_cons h, List.set_cons_zero, List.take_succ_eq_append_getElem h', List.append_assoc, List.singleton_append]

end Go.Proofs.YtojceibamgodbaaDoor
