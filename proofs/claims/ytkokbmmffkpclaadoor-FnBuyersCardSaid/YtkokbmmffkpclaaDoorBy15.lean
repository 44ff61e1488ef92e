/- By15: the texts DrawAuc DrawBuy VInts LawBuy Open OpenCode, joined into one file. -/
import Derived.ProofKit
import Derived.ChangeOld
import Derived.ShutString
import Derived.OpenShut
import Derived.Deep.Slices
import Derived.Deep.Fields
import Derived.Test.YtkokbmmffkpclaaDoorBy01
import Derived.Test.YtkokbmmffkpclaaDoorBy04
import Derived.Test.YtkokbmmffkpclaaDoorBy10
import Derived.Test.YtkokbmmffkpclaaDoorBy12
import Derived.Test.YtkokbmmffkpclaaDoorBy14

set_option linter.unusedVariables false

/- The reference draws an auction. (Printed by gen_dauc.py) -/
namespace Go.Proofs.YtkokbmmffkpclaaDoor
open Go.RowKit

theorem Env.wroteV {w W W' : World} {g : Nat} {A : Option Addr} {bs : List UInt8} {cap m B k n : Nat} {e : TypeId} {v : Value} {xs : List Value} (E : Env w W g A bs cap m) (ho : W.ownsRow B e k v n xs) (hg : W.grownBy W' v.ownBlock) (hB : w.heap.size ≤ B) (hgB : g < B) : Env w W' g A bs cap m := by
  cases hv : v.ownBlock with
  | none => rw [hv] at hg; exact E.below ⟨hg.os, hg.tape, hg.output, hg.size, fun j hj => hg.block j hj (by simp)⟩
  | some b => rw [hv] at hg; have := (ho.lt b hv).1; exact E.wrote hg (by omega) (by omega)
theorem ownsRow_gr {W W' : World} {B k n g : Nat} {e : TypeId} {v : Value} {xs : List Value} (h : W.ownsRow B e k v n xs) (hg : W.grownBy W' (some g)) (hB : g < B) : W'.ownsRow B e k v n xs :=
  h.kept hg (by
    cases hv : v.ownBlock with
    | none => left; rfl
    | some b => right; have := (h.lt b hv).1; intro e; injection e; omega)
theorem grown_row {W W' W'' : World} {B k n g : Nat} {e : TypeId} {v : Value} {xs : List Value} (G : W.grownBy W' (some g)) (ho : W'.ownsRow B e k v n xs) (hg : W'.grownBy W'' v.ownBlock) (hB : W.heap.size ≤ B) : W.grownBy W'' (some g) := by
  cases hv : v.ownBlock with
  | none => rw [hv] at hg; exact grown_trans G ⟨hg.os, hg.tape, hg.output, hg.size, fun j hj _ => hg.block j hj (by simp)⟩
  | some b => rw [hv] at hg; have := (ho.lt b hv).1; exact grown_own G hg (by omega)
/-- What stands between two steps of the auction that is drawn. -/
structure LQ (w W wx : World) (g : Nat) (A : Option Addr) (bs : List UInt8) (cap m : Nat) (l : List Lot) (v : Value) : Prop where
  env : Env w wx g A bs cap m
  own : wx.ownsRow W.heap.size 41 5 v l.length (l.flatMap Lot.enc)
  gr : W.grownBy wx (some g)
section
variable {w W wx wy : World} {g : Nat} {A : Option Addr} {bs : List UInt8} {cap m m' : Nat} {l : List Lot} {v v' : Value}
theorem LQ.mono (h : LQ w W wx g A bs cap m l v) (hm : m ≤ m') : LQ w W wx g A bs cap m' l v := { h with env := h.env.mono hm }
theorem LQ.next (h : LQ w W wx g A bs cap m l v) (E : Env w wy g A bs cap m') (hg : wx.grownBy wy (some g)) (hB : g < W.heap.size) : LQ w W wy g A bs cap m' l v := ⟨E, ownsRow_gr h.own hg hB, grown_trans h.gr hg⟩
theorem LQ.push (h : LQ w W wx g A bs cap m l v) (r : Lot) (ho : wy.ownsRow W.heap.size 41 5 v' (l.length + 1) (l.flatMap Lot.enc ++ r.enc)) (hg : wx.grownBy wy v.ownBlock) (hB : g < W.heap.size) (hw : w.heap.size ≤ W.heap.size) : LQ w W wy g A bs cap m (l ++ [r]) v' :=
  ⟨h.env.wroteV h.own hg hw hB, by simpa using ho, grown_row h.gr h.own hg (Nat.le_refl _)⟩
theorem LQ.far {AL : Option Addr} {c : Nat} (h : LQ w W wx g A bs cap m l (.slice AL l.length c)) (hB : g < W.heap.size) : ∀ b, AL.map (·.block) = some b → b ≠ g := by
  intro b hb
  cases AL with
  | none => cases hb
  | some a => have := (h.own.lt b (by simpa [Value.ownBlock] using hb)).1; omega
end
theorem stepA_good {l r : List Lot} {s : ASt} (h : stepA l s = some r) : GoodL r := by
  unfold stepA at h
  split at h
  · rename_i h1
    rw [Bool.and_eq_true] at h1
    exact stepL_good (goodL_iff.1 h1.1) h1.2 h
  · cases h
set_option maxRecDepth 100000 in
set_option maxHeartbeats 8000000 in
set_option linter.unusedVariables false in
theorem auction_any (g : Nat) (A : Option Addr) (bs : List UInt8) (cap m : Nat) (w W : World) (hm : m ≤ 700000000) (E0 : Env w W g A bs cap m) :
    Calls Tryd.prog 22 #[.pointer (some ⟨g, 0, none⟩)] W fun e w' => ∃ (AL : Option Addr) (c : Nat) (l : List Lot), e = .returned (.slice AL l.length c) ∧ OwnL w' W.heap.size AL c l ∧ l.length ≤ 9 ∧ Env w w' g A bs cap (m + 90000) ∧ W.grownBy w' (some g) := by
  have hB := E0.lt
  have hwW := E0.gr.size
  have E1 := E0.alloc (.cells #[] 41)
  have hal : Below W.heap.size W (W.alloc (.cells #[] 41)) := (Below.refl W.heap.size W).alloc (Nat.le_refl _) (.cells #[] 41)
  have S : LQ w W (W.alloc (.cells #[] 41)) g A bs cap m [] (.slice (some ⟨W.heap.size, 0, none⟩) 0 0) := ⟨E1, owns_empty (Lies.new W 41 #[]) (Nat.le_refl _), grownAny hal _⟩
  clear hal E0 E1
  go_enter Tryd.func22, Tryd.ntmps22
  go_wp2_with fail
  generalize (W.alloc (.cells #[] 41)) = W1 at S ⊢
  refine (pick_env S.env 36 (by omega) (by omega)).mono ?_
  rintro e W2 ⟨n, rfl, hn, E, gr⟩
  replace S := S.next E gr hB
  have HQ0 : Hid (LQ w W W2 g A bs cap (m + 10 + 2000 * (36 - n)) [] (.slice (some ⟨W.heap.size, 0, none⟩) 0 0)) := S.mono (by omega)
  clear S E gr
  have HG0 : Hid (GoodL ([] : List Lot)) := goodL_iff.1 rfl
  go_wp2_with fail
  go_loopw [3, 4] (fun list n wr => ∃ (k : Nat) (AL : Option Addr) (c : Nat) (l : List Lot), k ≤ 35 ∧ n = .int .i64 k ∧ list = .slice AL l.length c ∧ Hid (GoodL l) ∧ Hid (LQ w W wr g A bs cap (m + 10 + 2000 * (36 - k)) l (.slice AL l.length c))) (fun _ n _ => (intOf n).toNat)
  case atStart => exact ⟨n, _, _, [], hn, rfl, rfl, HG0, HQ0⟩
  case round =>
    clear HQ0 HG0
    obtain ⟨k, AL, c, l, hk, rfl, rfl, HG, HQ⟩ := hrel
    have hl8 := HG.out.len
    by_cases hlt : 0 < k
    · have hlt' : (0 : Int) < (k : Int) := by omega
      have hw1 : IntKind.i64.wrap ((k : Int) - 1) = (k : Int) - 1 := IntWalk.i64_in _ (by omega)
      have hk1 : ((k : Int) - 1) = ((k - 1 : Nat) : Int) := by omega
      have HK1 := Lib.hid hk1
      clear hk1
      go_wp2_with fail
      refine (auctionStep_any AL c l g A bs cap _ w wr (by omega) HQ.out.env (OwnL.reads HQ.out.own) HG.out (HQ.out.far hB)).mono ?_
      rintro e W3 ⟨s, rfl, E, gr⟩
      have S := HQ.out.next E gr hB
      clear E gr HQ
      go_wp2_with fail
      refine (specStepAuc_any AL c l s W3 (OwnL.reads S.own) (ownsRow_cap S.own)).mono ?_
      rintro e W4 ⟨v, rfl, hv, hb4⟩
      have S4 := S.next (S.env.below hb4) (grownAny hb4 _) hB
      have hs4 := S.gr.size
      clear S
      obtain ⟨R, hR⟩ : ∃ R, stepA l s = R := ⟨_, rfl⟩
      have HR := Lib.hid hR
      rw [hR] at hv ⊢
      clear hR
      cases R with
      | none =>
        have HQ := Lib.hid (S4.mono (show _ ≤ m + 10 + 2000 * (36 - (k - 1)) by omega))
        clear S4 hv hb4
        go_wp2
        go_roundw
        case rel => exact ⟨k - 1, AL, c, l, by omega, by rw [HK1.out], rfl, HG, HQ⟩
        case measure => simp [intOf]; omega
      | some r =>
        obtain ⟨A', c', rfl, ho⟩ := hv r rfl
        have HQ : Hid (LQ w W W4 g A bs cap (m + 10 + 2000 * (36 - (k - 1))) r (.slice A' r.length c')) := ⟨S4.env.mono (by omega), ownsRow_lower ho hs4, S4.gr⟩
        have HGr := Lib.hid (stepA_good HR.out)
        clear S4 hv hb4 ho
        go_wp2
        go_roundw
        case rel => exact ⟨k - 1, A', c', r, by omega, by rw [HK1.out], rfl, HGr, HQ⟩
        case measure => simp [intOf]; omega
    · have hk0 : k = 0 := by omega
      subst hk0
      have S := HQ.out
      clear HQ HG hlt
      go_wp2_with fail
      refine (pick_env S.env 24 (by omega) (by omega)).mono ?_
      rintro e W3 ⟨i, rfl, hi, E, gr⟩
      replace S := S.next E gr hB
      clear gr E
      have hi' : i = 0 ∨ i = 1 ∨ 2 ≤ i := by omega
      clear hi
      rcases hi' with rfl | rfl | hi
      · go_wp2_with fail
        refine (among_env S.env [0, 1, 99] 3 rfl _ rfl (by omega) (by omega) (by omega)).mono ?_
        rintro e W5 ⟨z1, rfl, _, E, gr⟩
        replace S := S.next E gr hB
        clear gr E
        go_wp2_with fail
        refine (pick_env S.env 5 (by omega) (by omega)).mono ?_
        rintro e WX ⟨z2, rfl, _, E, gr⟩
        replace S := S.next E gr hB
        clear gr E
        have HO := Lib.hid S.own
        have hz := S.gr.size
        have HS := Lib.hid S
        clear S
        go_wp2_with (at_builtin; refine wpList_push (w0 := WX) rfl _ _ 24 rfl 41 _ 5 40 Tryd.underlying24 infoLot rfl (by decide) (by omega) W.heap.size _ _ _ rfl HO #[.int .i64 z1, .int .i64 0, .int .i64 z2, .int .i64 0, .int .i64 0] 1 _ rfl (by first | rfl | exact Array.size_push _) rfl (by simp [Value.oneCell']) (by omega) hz rfl rfl rfl rfl ?_; intro v' WZ HOZ hgZ _)
        have S := HS.out.push (⟨z1, 0, z2, 0, 0⟩ : Lot) HOZ.out hgZ hB hwW
        have hzz := S.own
        obtain ⟨A', c', rfl⟩ := ownsRow_slice HOZ.out
        have HS := Lib.hid S
        have HZ := Lib.hid hzz
        clear S hzz HO HOZ hgZ
        try go_wp2
        go_ret
        exact ⟨A', c', l ++ [⟨z1, 0, z2, 0, 0⟩], by rw [List.length_append]; rfl, by unfold OwnL; have h := HZ.out; rw [List.length_append] at h ⊢; exact h, by rw [List.length_append]; show l.length + 1 ≤ 9; omega, HS.out.env.mono (by omega), HS.out.gr⟩
      · go_wp2_with fail
        refine (pick_env S.env 4 (by omega) (by omega)).mono ?_
        rintro e W5 ⟨z1, rfl, _, E, gr⟩
        replace S := S.next E gr hB
        clear gr E
        go_wp2_with fail
        refine (among_env S.env [4, 5, 0] 3 rfl _ rfl (by omega) (by omega) (by omega)).mono ?_
        rintro e W6 ⟨z2, rfl, _, E, gr⟩
        replace S := S.next E gr hB
        clear gr E
        go_wp2_with fail
        refine (among_env S.env [0, 3] 2 rfl _ rfl (by omega) (by omega) (by omega)).mono ?_
        rintro e WX ⟨z3, rfl, _, E, gr⟩
        replace S := S.next E gr hB
        clear gr E
        have HO := Lib.hid S.own
        have hz := S.gr.size
        have HS := Lib.hid S
        clear S
        go_wp2_with (at_builtin; refine wpList_push (w0 := WX) rfl _ _ 24 rfl 41 _ 5 40 Tryd.underlying24 infoLot rfl (by decide) (by omega) W.heap.size _ _ _ rfl HO #[.int .i64 99, .int .i64 5, .int .i64 z1, .int .i64 z2, .int .i64 z3] 1 _ rfl (by first | rfl | exact Array.size_push _) rfl (by simp [Value.oneCell']) (by omega) hz rfl rfl rfl rfl ?_; intro v' WZ HOZ hgZ _)
        have S := HS.out.push (⟨99, 5, z1, z2, z3⟩ : Lot) HOZ.out hgZ hB hwW
        have hzz := S.own
        obtain ⟨A', c', rfl⟩ := ownsRow_slice HOZ.out
        have HS := Lib.hid S
        have HZ := Lib.hid hzz
        clear S hzz HO HOZ hgZ
        try go_wp2
        go_ret
        exact ⟨A', c', l ++ [⟨99, 5, z1, z2, z3⟩], by rw [List.length_append]; rfl, by unfold OwnL; have h := HZ.out; rw [List.length_append] at h ⊢; exact h, by rw [List.length_append]; show l.length + 1 ≤ 9; omega, HS.out.env.mono (by omega), HS.out.gr⟩
      · have f0 : ((i : Int) == 0) = false := by rw [beq_eq_false_iff_ne]; omega
        have f1 : ((i : Int) == 1) = false := by rw [beq_eq_false_iff_ne]; omega
        have HS := Lib.hid S
        clear S
        go_wp2
        go_ret
        exact ⟨AL, c, l, rfl, HS.out.own, by omega, HS.out.env.mono (by omega), HS.out.gr⟩
end Go.Proofs.YtkokbmmffkpclaaDoor

/- The reference draws an auction, an auction and a bidder, a lot (FnBuyers). (Printed by gen_dbuy.py) -/
namespace Go.Proofs.YtkokbmmffkpclaaDoor
open Go.RowKit

theorem grown_below {w w' : World} {g : Nat} (hg : w.grownBy w' (some g)) (h : w.heap.size ≤ g) : Below w.heap.size w w' :=
  ⟨hg.os, hg.tape, hg.output, hg.size, fun k hk => hg.block k hk (by intro e; injection e; omega)⟩
/-- What a drawing of an auction gives. -/
def DrawnL (w : World) (e : Ending) (w' : World) : Prop := ∃ (AL : Option Addr) (c : Nat) (l : List Lot), e = .returned (.slice AL l.length c) ∧ OwnL w' w.heap.size AL c l ∧ l.length ≤ 9 ∧ Below w.heap.size w w'
def DrawnLZ (w : World) (e : Ending) (w' : World) : Prop := ∃ (AL : Option Addr) (c : Nat) (l : List Lot) (z : Int), e = .returned (.tuple #[.slice AL l.length c, .int .i64 z]) ∧ OwnL w' w.heap.size AL c l ∧ l.length ≤ 9 ∧ Below w.heap.size w w'
def DrawnLo (w : World) (e : Ending) (w' : World) : Prop := ∃ x : Lot, e = .returned x.val ∧ Below w.heap.size w w'
set_option maxRecDepth 100000 in
set_option maxHeartbeats 4000000 in
set_option linter.unusedVariables false in
theorem drawIsAuction_any (A : Option Addr) (cap : Nat) (bs : List UInt8) (w : World) (hr : BytesR w w.heap.size A bs) :
    Calls Tryd.prog 30 #[.slice A bs.length cap] w (DrawnL w) := by
  have Lc := Lies.new w 48 #[.slice A bs.length cap, .int .i64 0, .int .u64 0]
  have b1 : Below w.heap.size w (w.alloc (.cells #[.slice A bs.length cap, .int .i64 0, .int .u64 0] 48)) := (Below.refl w.heap.size w).alloc (Nat.le_refl _) (.cells #[.slice A bs.length cap, .int .i64 0, .int .u64 0] 48)
  go_enter Tryd.func30, Tryd.ntmps30
  go_wp2_with fail
  generalize (w.alloc (.cells #[.slice A bs.length cap, .int .i64 0, .int .u64 0] 48)) = W1 at Lc b1 ⊢
  have E1 : Env w W1 w.heap.size A bs cap 0 := ⟨⟨0, 0, Lc, Nat.le_refl _, by omega, by omega⟩, (SlcR.below hr b1).mono (by omega), grownAny b1 _⟩
  have hgl := Lc.lt
  have G1 : w.grownBy W1 (some w.heap.size) := grownAny b1 _
  have hb1 := b1.size
  clear hr Lc b1
  refine (auction_any w.heap.size A bs cap 0 w W1 (by omega) E1).mono ?_
  rintro e W2 ⟨AL, c, l, rfl, hO, hl9, E2, gr2⟩
  have G := grown_trans G1 gr2
  have HO : Hid (OwnL W2 w.heap.size AL c l) := ownsRow_lower hO hb1
  have HG := Lib.hid G
  clear hO G E1 E2 gr2 G1
  go_wp2
  go_ret
  exact ⟨AL, c, l, rfl, HO.out, hl9, grown_below HG.out (Nat.le_refl _)⟩
set_option maxRecDepth 100000 in
set_option maxHeartbeats 4000000 in
set_option linter.unusedVariables false in
theorem drawLeastBid_any (A : Option Addr) (cap : Nat) (bs : List UInt8) (w : World) (hr : BytesR w w.heap.size A bs) :
    Calls Tryd.prog 15 #[.slice A bs.length cap] w (DrawnL w) := by
  go_enter Tryd.func15, Tryd.ntmps15
  go_wp2_with fail
  refine (drawIsAuction_any A cap bs w hr).mono ?_
  rintro e W2 ⟨AL, c, l, rfl, hO, hl9, hb⟩
  have HO := Lib.hid hO
  have HB := Lib.hid hb
  clear hO hb hr
  go_wp2
  go_ret
  exact ⟨AL, c, l, rfl, HO.out, hl9, HB.out⟩
set_option maxRecDepth 100000 in
set_option maxHeartbeats 4000000 in
set_option linter.unusedVariables false in
theorem drawLotsBought_any (A : Option Addr) (cap : Nat) (bs : List UInt8) (w : World) (hr : BytesR w w.heap.size A bs) :
    Calls Tryd.prog 5 #[.slice A bs.length cap] w (DrawnLZ w) := by
  have Lc := Lies.new w 48 #[.slice A bs.length cap, .int .i64 0, .int .u64 0]
  have b1 : Below w.heap.size w (w.alloc (.cells #[.slice A bs.length cap, .int .i64 0, .int .u64 0] 48)) := (Below.refl w.heap.size w).alloc (Nat.le_refl _) (.cells #[.slice A bs.length cap, .int .i64 0, .int .u64 0] 48)
  go_enter Tryd.func5, Tryd.ntmps5
  go_wp2_with fail
  generalize (w.alloc (.cells #[.slice A bs.length cap, .int .i64 0, .int .u64 0] 48)) = W1 at Lc b1 ⊢
  have E1 : Env w W1 w.heap.size A bs cap 0 := ⟨⟨0, 0, Lc, Nat.le_refl _, by omega, by omega⟩, (SlcR.below hr b1).mono (by omega), grownAny b1 _⟩
  have hgl := Lc.lt
  have G1 : w.grownBy W1 (some w.heap.size) := grownAny b1 _
  have hb1 := b1.size
  clear hr Lc b1
  refine (auction_any w.heap.size A bs cap 0 w W1 (by omega) E1).mono ?_
  rintro e W2 ⟨AL, c, l, rfl, hO, hl9, E2, gr2⟩
  have G := grown_trans G1 gr2
  have HO := Lib.hid hO
  clear hO E1 gr2 G1
  go_wp2_with fail
  refine (among_env E2 [5, 5, 17, 999, 0, 1000] 6 rfl _ rfl (by omega) (by omega) (by omega)).mono ?_
  rintro e W3 ⟨z, rfl, _, E3, gr3⟩
  have HO3 : Hid (OwnL W3 w.heap.size AL c l) := ownsRow_lower (ownsRow_gr HO.out gr3 hgl) hb1
  have HG := Lib.hid (grown_trans G gr3)
  clear G E2 E3 gr3 HO
  go_wp2
  go_ret2
  exact ⟨AL, c, l, z, rfl, HO3.out, hl9, grown_below HG.out (Nat.le_refl _)⟩
set_option maxRecDepth 100000 in
set_option maxHeartbeats 4000000 in
set_option linter.unusedVariables false in
theorem drawSaleText_any (A : Option Addr) (cap : Nat) (bs : List UInt8) (w : World) (hr : BytesR w w.heap.size A bs) :
    Calls Tryd.prog 19 #[.slice A bs.length cap] w (DrawnLo w) := by
  have L2 := (Lies.new w 41 #[.int .i64 0, .int .i64 0, .int .i64 0, .int .i64 0, .int .i64 0]).alloc (.cells #[.slice A bs.length cap, .int .i64 0, .int .u64 0] 48)
  have Lc := Lies.new1 w (.cells #[.int .i64 0, .int .i64 0, .int .i64 0, .int .i64 0, .int .i64 0] 41) 48 #[.slice A bs.length cap, .int .i64 0, .int .u64 0]
  have b1 : Below w.heap.size w ((w.alloc (.cells #[.int .i64 0, .int .i64 0, .int .i64 0, .int .i64 0, .int .i64 0] 41)).alloc (.cells #[.slice A bs.length cap, .int .i64 0, .int .u64 0] 48)) := ((Below.refl w.heap.size w).alloc (Nat.le_refl _) (.cells #[.int .i64 0, .int .i64 0, .int .i64 0, .int .i64 0, .int .i64 0] 41)).alloc (by simp) (.cells #[.slice A bs.length cap, .int .i64 0, .int .u64 0] 48)
  go_enter Tryd.func19, Tryd.ntmps19
  go_wp2_with fail
  generalize ((w.alloc (.cells #[.int .i64 0, .int .i64 0, .int .i64 0, .int .i64 0, .int .i64 0] 41)).alloc (.cells #[.slice A bs.length cap, .int .i64 0, .int .u64 0] 48)) = W1 at L2 Lc b1 ⊢
  have E1 : Env w W1 (w.heap.size + 1) A bs cap 0 := ⟨⟨0, 0, Lc, Nat.le_refl _, by omega, by omega⟩, (SlcR.below hr b1).mono (by omega), grownAny b1 _⟩
  have hgl := Lc.lt
  have G1 : w.grownBy W1 (some (w.heap.size + 1)) := grownAny b1 _
  have hb1 := b1.size
  clear hr Lc b1
  refine (auction_any (w.heap.size + 1) A bs cap 0 w W1 (by omega) E1).mono ?_
  rintro e W2 ⟨AL, c, l, rfl, hO, hl9, E2, gr2⟩
  have G := grown_trans G1 gr2
  have L2 := L2.kept gr2 (by intro e; injection e; omega)
  have hb2 := gr2.size
  clear E1 gr2 G1
  go_upto_if 12 with fail
  by_cases h0 : 0 < l.length
  · have h0' : (0 : Int) < l.length := by omega
    go_wp2_with fail
    refine (pick_env E2 l.length (by omega) (by omega)).mono ?_
    rintro e W3 ⟨i, rfl, hi, E3, gr⟩
    have hi' : i < l.length := by omega
    have hii : (i : Int) < l.length := by omega
    clear hi
    have hO3 : OwnL W3 W1.heap.size AL c l := ownsRow_gr hO gr hgl
    obtain ⟨b, off, rfl, hb, hcell⟩ := LotsR.el (OwnL.reads hO3) h0
    have hcx := hcell i hi'
    clear hcell
    obtain ⟨z, hze⟩ : ∃ z, z = l[i] := ⟨_, rfl⟩
    rw [← hze] at hcx
    obtain ⟨c0, c1, c2, c3, c4⟩ := hcx
    have q0 := c0 (Since.start _ _)
    have q1 := c1 (Since.start _ _)
    have q2 := c2 (Since.start _ _)
    have q3 := c3 (Since.start _ _)
    have q4 := c4 (Since.start _ _)
    simp only [Since.start] at q0 q1 q2 q3 q4
    clear c0 c1 c2 c3 c4 hze
    have L2 := L2.kept gr (by intro e; injection e; omega)
    have BB := grown_below (grown_trans G gr) (by omega)
    clear gr G E2 E3 hO hO3
    have y0 := L2.cell 0
    have y1 := L2.cell 1
    have y2 := L2.cell 2
    have y3 := L2.cell 3
    have y4 := L2.cell 4
    simp only [List.getElem?_cons_zero, List.getElem?_cons_succ] at y0 y1 y2 y3 y4
    have f0 := L2.frozen 0
    have f1 := L2.frozen 1
    have f2 := L2.frozen 2
    have f3 := L2.frozen 3
    have f4 := L2.frozen 4
    have hG8 := (grown_set (g := w.heap.size) (i := 4) (u := .int .i64 z.b) (grown_set (g := w.heap.size) (i := 3) (u := .int .i64 z.h) (grown_set (g := w.heap.size) (i := 2) (u := .int .i64 z.s) (grown_set (g := w.heap.size) (i := 1) (u := .int .i64 z.r) (grown_set (g := w.heap.size) (i := 0) (u := .int .i64 z.i) (World.grownBy.refl W3 (some w.heap.size)))))))
    have hLS := (((((L2.set 0 (.int .i64 z.i)).set 1 (.int .i64 z.r)).set 2 (.int .i64 z.s)).set 3 (.int .i64 z.h)).set 4 (.int .i64 z.b))
    simp only [List.set_cons_zero, List.set_cons_succ] at hLS
    have HBB : Hid (Below w.heap.size w (((((W3.setCell ⟨w.heap.size, 0, none⟩ (.int .i64 z.i)).setCell ⟨w.heap.size, 1, none⟩ (.int .i64 z.r)).setCell ⟨w.heap.size, 2, none⟩ (.int .i64 z.s)).setCell ⟨w.heap.size, 3, none⟩ (.int .i64 z.h)).setCell ⟨w.heap.size, 4, none⟩ (.int .i64 z.b))) := BB.grown hG8 BB.size (by rintro _ ⟨⟩; exact Nat.le_refl _)
    obtain ⟨W8, hW8⟩ : ∃ W8, (((((W3.setCell ⟨w.heap.size, 0, none⟩ (.int .i64 z.i)).setCell ⟨w.heap.size, 1, none⟩ (.int .i64 z.r)).setCell ⟨w.heap.size, 2, none⟩ (.int .i64 z.s)).setCell ⟨w.heap.size, 3, none⟩ (.int .i64 z.h)).setCell ⟨w.heap.size, 4, none⟩ (.int .i64 z.b)) = W8 := ⟨_, rfl⟩
    rw [hW8] at hLS HBB
    have HW8 := Lib.hid hW8
    have HLS := Lib.hid hLS
    clear hG8 L2 hW8 hLS BB
    repeat (first | go_values | go_skip | go_guarded | go_step | go_upon | simp only [])
    rw [HW8.out]
    have hLS := HLS.out
    have x0 := hLS.cell 0
    have x1 := hLS.cell 1
    have x2 := hLS.cell 2
    have x3 := hLS.cell 3
    have x4 := hLS.cell 4
    simp only [List.getElem?_cons_zero, List.getElem?_cons_succ] at x0 x1 x2 x3 x4
    refine bodyPost_ret (v := .agg #[.int .i64 z.i, .int .i64 z.r, .int .i64 z.s, .int .i64 z.h, .int .i64 z.b]) (by simp [results, Tryd.results19, go_sem, x0, x1, x2, x3, x4]) rfl ?_
    exact ⟨⟨z.i, z.r, z.s, z.h, z.b⟩, rfl, HBB.out⟩
  · have h0' : ¬ (0 : Int) < l.length := by omega
    go_wp2_with fail
    refine (among_env E2 [0, 1, 100] 3 rfl _ rfl (by omega) (by omega) (by omega)).mono ?_
    rintro e W3 ⟨z1, rfl, _, E3, gr⟩
    have L2 := L2.kept gr (by intro e; injection e; omega)
    have G := grown_trans G gr
    clear gr E2 hO
    go_wp2_with fail
    refine (pick_env E3 5 (by omega) (by omega)).mono ?_
    rintro e W4 ⟨z2, rfl, _, E4, gr⟩
    have L2 := L2.kept gr (by intro e; injection e; omega)
    have BB := grown_below (grown_trans G gr) (by omega)
    clear gr G E3 E4
    have y0 := L2.cell 0
    have y1 := L2.cell 1
    have y2 := L2.cell 2
    have y3 := L2.cell 3
    have y4 := L2.cell 4
    simp only [List.getElem?_cons_zero, List.getElem?_cons_succ] at y0 y1 y2 y3 y4
    have f0 := L2.frozen 0
    have f1 := L2.frozen 1
    have f2 := L2.frozen 2
    have f3 := L2.frozen 3
    have f4 := L2.frozen 4
    have hG8 := (grown_set (g := w.heap.size) (i := 4) (u := .int .i64 0) (grown_set (g := w.heap.size) (i := 3) (u := .int .i64 0) (grown_set (g := w.heap.size) (i := 2) (u := .int .i64 z2) (grown_set (g := w.heap.size) (i := 1) (u := .int .i64 0) (grown_set (g := w.heap.size) (i := 0) (u := .int .i64 z1) (World.grownBy.refl W4 (some w.heap.size)))))))
    have hLS := (((((L2.set 0 (.int .i64 z1)).set 1 (.int .i64 0)).set 2 (.int .i64 z2)).set 3 (.int .i64 0)).set 4 (.int .i64 0))
    simp only [List.set_cons_zero, List.set_cons_succ] at hLS
    have HBB : Hid (Below w.heap.size w (((((W4.setCell ⟨w.heap.size, 0, none⟩ (.int .i64 z1)).setCell ⟨w.heap.size, 1, none⟩ (.int .i64 0)).setCell ⟨w.heap.size, 2, none⟩ (.int .i64 z2)).setCell ⟨w.heap.size, 3, none⟩ (.int .i64 0)).setCell ⟨w.heap.size, 4, none⟩ (.int .i64 0))) := BB.grown hG8 BB.size (by rintro _ ⟨⟩; exact Nat.le_refl _)
    obtain ⟨W8, hW8⟩ : ∃ W8, (((((W4.setCell ⟨w.heap.size, 0, none⟩ (.int .i64 z1)).setCell ⟨w.heap.size, 1, none⟩ (.int .i64 0)).setCell ⟨w.heap.size, 2, none⟩ (.int .i64 z2)).setCell ⟨w.heap.size, 3, none⟩ (.int .i64 0)).setCell ⟨w.heap.size, 4, none⟩ (.int .i64 0)) = W8 := ⟨_, rfl⟩
    rw [hW8] at hLS HBB
    have HW8 := Lib.hid hW8
    have HLS := Lib.hid hLS
    clear hG8 L2 hW8 hLS BB
    repeat (first | go_values | go_skip | go_guarded | go_step | go_upon | simp only [])
    rw [HW8.out]
    have hLS := HLS.out
    have x0 := hLS.cell 0
    have x1 := hLS.cell 1
    have x2 := hLS.cell 2
    have x3 := hLS.cell 3
    have x4 := hLS.cell 4
    simp only [List.getElem?_cons_zero, List.getElem?_cons_succ] at x0 x1 x2 x3 x4
    refine bodyPost_ret (v := .agg #[.int .i64 z1, .int .i64 0, .int .i64 z2, .int .i64 0, .int .i64 0]) (by simp [results, Tryd.results19, go_sem, x0, x1, x2, x3, x4]) rfl ?_
    exact ⟨⟨z1, 0, z2, 0, 0⟩, rfl, HBB.out⟩
end Go.Proofs.YtkokbmmffkpclaaDoor

/- What laws.vHas and laws.vInts answer. -/
namespace Go.Proofs.YtkokbmmffkpclaaDoor
open Go.RowKit

def hasFrom (x : Int) (l : List Int) : Bool := l.any (fun y => decide (y = x))
set_option maxHeartbeats 1000000 in
theorem vInts_any (A B : Option Addr) (c d : Nat) (l : List Int) (w : World) (hA : IntsR w w.heap.size A l) (hB : IntsR w w.heap.size B l) :
    Calls Tryd.prog 8 #[.slice A l.length c, .slice B l.length d] w fun e w' => e = .returned (.bool true) ∧ Below w.heap.size w w' := by
  have hlA := hA.big
  have hrA := hA.ints
  have hrB := hB.ints
  have hbn : ((l.length : Int) != (l.length : Int)) = false := by simp
  go_enter Tryd.func8, Tryd.ntmps8
  go_wp2
  go_loopw [5] (fun i wr => ∃ k : Nat, k ≤ l.length ∧ i = .int .i64 k ∧ (∃ q : Since w.heap.size w, wr = q.val)) (fun i _ => l.length - (intOf i).toNat)
  case atStart => exact ⟨0, Nat.zero_le _, rfl, ⟨Since.start _ _, rfl⟩⟩
  case round =>
    obtain ⟨k, hk, rfl, ⟨q, rfl⟩⟩ := hrel
    by_cases hlt : k < l.length
    · obtain ⟨b, off, rfl, hb, hcell⟩ := hrA (by omega)
      obtain ⟨b', off', rfl, hb', hcell'⟩ := hrB (by omega)
      have c0 := hcell k hlt
      have d0 := hcell' k hlt
      generalize l[k] = y at c0 d0
      clear hcell hcell' hrA hrB
      go_wp2
      refine wp_region_since _ (by kernel_rfl) (by kernel_rfl) ?_
      repeat (any_goals (first | go_big_quiet_step ((fail)) | (refine wpQuiet_step (fun K hK => ?_); go_simp; split <;> (refine hK _ ?_; clear hK K))))
      all_goals (refine wpQuiet_nil ?_; rintro _ ⟨q1, rfl⟩)
      go_wp2
      go_roundw
      case rel => exact ⟨k + 1, by omega, by go_num, ⟨q1, rfl⟩⟩
      case measure => simp [intOf]; omega
    · go_wp2
      go_ret
      exact ⟨rfl, q.below⟩
end Go.Proofs.YtkokbmmffkpclaaDoor

/- FnBuyers: the walk. (Printed by gen_lawbuy.py) -/
namespace Go.Proofs.YtkokbmmffkpclaaDoor
open Go.RowKit

theorem vBig_any (A : Option Addr) (n c : Nat) (w : World) : Calls Tryd.prog 4 #[.slice A n c] w fun e w' => e = .returned (.bool (decide (65536 < n))) ∧ w = w' := by
  by_cases h : 65536 < n
  · have h1 : (65536 : Int) < n := by omega
    rw [decide_eq_true h]
    go_enter Tryd.func4, Tryd.ntmps4
    go_wp2
    go_ret
    exact ⟨by simp [h1], rfl⟩
  · have h1 : ¬ (65536 : Int) < n := by omega
    rw [decide_eq_false h]
    go_enter Tryd.func4, Tryd.ntmps4
    go_wp2
    go_ret
    exact ⟨by simp [h1], rfl⟩
/-- An auction drawn. -/
structure BS (w W : World) (AL : Option Addr) (l : List Lot) : Prop where
  tab : Tab W
  bl : Below w.heap.size w W
  x : LotsR W W.heap.size AL l
theorem BS.then {w W W' : World} {AL : Option Addr} {l : List Lot} (h : BS w W AL l) (hb : Below W.heap.size W W') : BS w W' AL l :=
  ⟨h.tab.then hb, h.bl.trans (hb.mono h.bl.size), SlcR.then h.x hb⟩
theorem ints_then {w w' : World} {A : Option Addr} {l : List Int} (h : IntsR w w.heap.size A l) (hb : Below w.heap.size w w') : IntsR w' w'.heap.size A l := (SlcR.below h hb).mono hb.size

set_option maxRecDepth 100000 in
set_option maxHeartbeats 8000000 in
set_option linter.unusedVariables false in
theorem lawBuyers_any (A : Option Addr) (cap : Nat) (bs : List UInt8) (w : World) (hr : BytesR w w.heap.size A bs) (ht : Tab w) :
    Calls Tryd.prog 3 #[.slice A bs.length cap] w fun e w' => e = .returned (.bool true) ∧ Below w.heap.size w w' := by
  by_cases hbig : 65536 < bs.length
  · have hb' : decide (65536 < bs.length) = true := decide_eq_true hbig
    go_enter Tryd.func3, Tryd.ntmps3
    go_wp2_with (go_at_call 4; refine (vBig_any _ _ _ _).mono ?_; rintro e w' ⟨rfl, rfl⟩)
    go_ret
    exact ⟨rfl, Below.refl _ _⟩
  · have hb' : decide (65536 < bs.length) = false := decide_eq_false hbig
    go_enter Tryd.func3, Tryd.ntmps3
    go_wp2_with fail
    refine (vBig_any _ _ _ _).mono ?_
    rintro e w' ⟨rfl, rfl⟩
    go_wp2_with fail
    clear hb' hbig
    have HBR := Lib.hid hr
    have HTB := Lib.hid ht
    clear ht
    refine (drawLotsBought_any A cap bs w hr).mono ?_
    rintro e v0 ⟨AL, cl, l, z, rfl, hO, hl9, hb0⟩
    have S0 : BS w v0 AL l := ⟨HTB.out.then hb0, hb0, ownsRow_reads hO⟩
    clear hO hb0 hr
    have HBV : Hid (bestOk l = true → buyOk l z = true → buyOk l (bestV l) = true ∧ buyS l z ≤ buyS l (bestV l) ∧ buyS l (bestV l) ≤ turnS l) := told_most
    have HTT : Hid (goodLots l = true → bestOk l = decide (0 < turnS l)) := told_turn
    have HTG : Hid (bestOk l = true → goodLots l = true) := told_good
    have HIN : Hid (goodLots l = true → ∀ s : Int, 0 ≤ s → s ≤ 3 → inOk l s = true ∧ inR' l s = idsF (inSt s) l) := fun h s h0 h3 => in_ok h h0 h3
    have HIC : Hid (goodLots l = true → inCnt l 4 = l.length) := inCnt_all
    have cI := fun W h => implBuy_any AL cl l z W h
    have cS := fun W h => specBuy_any AL cl l z W h
    have cJ := fun W h => implBuy_any AL cl l (bestV l) W h
    have bI := fun W h => implBest_any AL cl l W h
    have bS := fun W h => specBest_any AL cl l W h
    have tI := fun W h => implTurn_any AL cl l W h
    have tS := fun W h => specTurn_any AL cl l W h
    obtain ⟨bv, hbv⟩ : ∃ b, bestV l = b := ⟨_, rfl⟩
    simp only [hbv] at cJ bI bS HBV
    obtain ⟨bi, hbi⟩ : ∃ b, buyI l z = b := ⟨_, rfl⟩
    obtain ⟨bs0, hbs⟩ : ∃ b, buyS l z = b := ⟨_, rfl⟩
    obtain ⟨bo, hbo⟩ : ∃ b, buyOk l z = b := ⟨_, rfl⟩
    obtain ⟨mi, hmi⟩ : ∃ b, buyI l bv = b := ⟨_, rfl⟩
    obtain ⟨ms, hms⟩ : ∃ b, buyS l bv = b := ⟨_, rfl⟩
    obtain ⟨mo, hmo⟩ : ∃ b, buyOk l bv = b := ⟨_, rfl⟩
    obtain ⟨bb, hbb⟩ : ∃ b, bestOk l = b := ⟨_, rfl⟩
    obtain ⟨tv, htv⟩ : ∃ b, turnS l = b := ⟨_, rfl⟩
    obtain ⟨gd, hgd⟩ : ∃ b, goodLots l = b := ⟨_, rfl⟩
    simp only [hbi, hbs, hbo, hmi, hms, hmo, hbb, htv, hgd] at cI cS cJ bI bS tI tS HBV HTT HTG HIN HIC
    have HGD := Lib.hid hgd
    clear hbi hbs hbo hmi hms hmo hbv hbb htv hgd
    have hn0 : (bo != bo) = false := by cases bo <;> rfl
    have hn1 : (bs0 != bs0) = false := by simp
    have hn2 : (bv != bv) = false := by simp
    have hn3 : (bb != bb) = false := by cases bb <;> rfl
    have hn4 : (tv != tv) = false := by simp
    have hn5 : (gd != gd) = false := by cases gd <;> rfl
    go_wp2_with fail
    refine (cI v0 S0.x).mono ?_
    rintro e v1 ⟨P, pc, rfl, hP, hb1⟩
    have I1 : IntsR v1 v1.heap.size P bi := ownsRow_reads hP
    have S1 := S0.then hb1
    clear hP hb1 S0 cI
    go_wp2_with fail
    refine (cS v1 S1.x).mono ?_
    rintro e v2 ⟨P', pc', rfl, hP, hb1⟩
    have J2 : IntsR v2 v2.heap.size P' bi := ownsRow_reads hP
    have I2 := ints_then I1 hb1
    have S2 := S1.then hb1
    clear hP hb1 S1 I1 cS
    go_wp2_with fail
    refine (vInts_any P P' pc pc' bi v2 I2 J2).mono ?_
    rintro e v3 ⟨rfl, hb1⟩
    have S3 := S2.then hb1
    clear hb1 S2 I2 J2
    go_wp2_with fail
    refine (bI v3 S3.x).mono ?_
    rintro e v4 ⟨rfl, hb1⟩
    have S4 := S3.then hb1
    clear hb1 S3 bI
    go_wp2_with fail
    refine (bS v4 S4.x).mono ?_
    rintro e v5 ⟨rfl, hb1⟩
    have S5 := S4.then hb1
    clear hb1 S4 bS
    go_wp2_with fail
    refine (tI v5 S5.x).mono ?_
    rintro e v6 ⟨rfl, hb1⟩
    have S6 := S5.then hb1
    clear hb1 S5 tI
    go_wp2_with fail
    refine (tS v6 S6.x).mono ?_
    rintro e v7 ⟨rfl, hb1⟩
    have S7 := S6.then hb1
    clear hb1 S6 tS
    go_upto_region 14 with fail
    go_cut [123] (fun s123 wx => s123 = .bool false ∧ v7 = wx)
    case first => as_aux_lemma =>
      cases gd
      · go_wp2_with fail
        go_meet
        case rel => exact ⟨rfl, rfl⟩
      · have hbt := HTT.out rfl
        by_cases h0 : 0 < tv
        · rw [decide_eq_true h0] at hbt
          subst hbt
          go_wp2_with fail
          go_meet
          case rel => exact ⟨rfl, rfl⟩
        · rw [decide_eq_false h0] at hbt
          subst hbt
          go_wp2_with fail
          go_meet
          case rel => exact ⟨rfl, rfl⟩
    case rest => as_aux_lemma =>
      obtain ⟨rfl, rfl⟩ := hcut
      clear hn0 hn1 hn2 hn3 hn4 hn5 HTT
      go_upto_region 16 with fail
      go_cut [127] (fun s127 wx => s127 = .bool (bb && bo) ∧ v7 = wx)
      case first => as_aux_lemma =>
        cases bb
        · go_wp2_with fail
          go_meet
          case rel => exact ⟨rfl, rfl⟩
        · go_wp2_with fail
          go_meet
          case rel => exact ⟨by cases bo <;> rfl, rfl⟩
      case rest => as_aux_lemma =>
        obtain ⟨rfl, rfl⟩ := hcut
        obtain ⟨q, hq⟩ : ∃ q, (bb && bo) = q := ⟨_, rfl⟩
        have HBQ : Hid (q = true → mo = true ∧ bs0 ≤ ms ∧ ms ≤ tv) := fun h => by rw [← hq, Bool.and_eq_true] at h; exact HBV.out h.1 h.2
        rw [hq]
        clear hq HBV
        go_upto_if 127 with fail
        go_cut [] (fun wx => Below v7.heap.size v7 wx)
        case first => as_aux_lemma =>
          cases q
          · go_wp2_with fail
            go_meet
            case rel => exact Below.refl _ _
          · obtain ⟨hmo, hm1, hm2⟩ := HBQ.out rfl
            subst hmo
            have h1 : ¬ ms < bs0 := by omega
            have h2 : ¬ tv < ms := by omega
            go_wp2_with fail
            refine (cJ v7 S7.x).mono ?_
            rintro e v8 ⟨P, pc, rfl, hP, hb1⟩
            clear hP
            go_wp2_with fail
            go_meet
            case rel => exact hb1
        case rest => as_aux_lemma =>
          have S8 := S7.then hcut
          clear S7 hcut HBQ cJ
          go_upto_if 147 with fail
          go_cut [] (fun wx => Below wc.heap.size wc wx)
          case first => as_aux_lemma =>
            cases gd
            · go_wp2_with fail
              go_meet
              case rel => exact Below.refl _ _
            · have HI := Lib.hid (HIN.out rfl)
              have HC := Lib.hid (HIC.out rfl)
              clear HIN HIC
              go_wp2_with fail
              go_loopw [22, 23] (fun n i wr => ∃ k : Nat, k ≤ 4 ∧ n = .int .i64 (inCnt l k) ∧ i = .int .i64 k ∧ Below wc.heap.size wc wr) (fun _ i _ => 4 - (intOf i).toNat)
              case atStart => exact ⟨0, by omega, rfl, rfl, Below.refl _ _⟩
              case round =>
                obtain ⟨k, hk, rfl, rfl, hbr⟩ := hrel
                have Sr := S8.then hbr
                by_cases hlt : k < 4
                · have hlt' : (k : Int) ≤ 3 := by omega
                  obtain ⟨h1, h2⟩ := HI.out (k : Int) (by omega) hlt'
                  have dI := fun W h => implIn_any AL cl l (k : Int) W h
                  have dS := fun W h => specIn_any AL cl l (k : Int) W h
                  rw [h1, h2] at dI dS
                  have hc1 : inCnt l (k + 1) = inCnt l k + (idsF (inSt k) l).length := rfl
                  have hc2 : inCnt l k ≤ 4 * 9 := Nat.le_trans (inCnt_le l k) (Nat.mul_le_mul (by omega) hl9)
                  have hc3 := idsF_len (inSt k) l
                  have HC1 := Lib.hid hc1
                  generalize idsF (inSt k) l = ls at dI dS HC1 hc3
                  have hw2 : IntKind.i64.wrap ((inCnt l k : Int) + (ls.length : Int)) = (inCnt l k : Int) + (ls.length : Int) := IntWalk.i64_in _ (by omega)
                  have hw3 : IntKind.i64.wrap ((k : Int) + 1) = (k : Int) + 1 := IntWalk.i64_in _ (by omega)
                  clear h1 h2 hc1
                  go_wp2_with fail
                  refine (dI wr Sr.x).mono ?_
                  rintro e u1 ⟨P, pc, rfl, hP, hb1⟩
                  have I1 : IntsR u1 u1.heap.size P ls := ownsRow_reads hP
                  have S1 := Sr.then hb1
                  clear hP Sr dI
                  go_wp2_with fail
                  refine (dS u1 S1.x).mono ?_
                  rintro e u2 ⟨P', pc', rfl, hP, hb2⟩
                  have J2 : IntsR u2 u2.heap.size P' ls := ownsRow_reads hP
                  have I2 := ints_then I1 hb2
                  clear hP S1 I1 dS
                  go_wp2_with fail
                  refine (vInts_any P P' pc pc' ls u2 I2 J2).mono ?_
                  rintro e u3 ⟨rfl, hb3⟩
                  have hb9 := Lib.hid (hbr.trans ((bthen hb1 (bthen hb2 hb3)).mono hbr.size))
                  clear I2 J2 hb1 hb2 hb3 hbr
                  go_wp2
                  go_roundw
                  case rel => exact ⟨k + 1, by omega, by have := HC1.out; go_num, by go_num, hb9.out⟩
                  case measure => simp [intOf]; omega
                · have hk4 : k = 4 := by omega
                  subst hk4
                  rw [HC.out]
                  have hne : ((l.length : Int) != (l.length : Int)) = false := by simp
                  go_wp2_with fail
                  go_meet
                  case rel => exact hbr
          case rest => as_aux_lemma =>
            have HS9 := Lib.hid (S8.then hcut)
            clear S8 hcut HIN HIC HTG
            have hrd : BytesR wc wc.heap.size A bs := SlcR.up HBR.out HS9.out.bl (Nat.le_refl _)
            go_wp2_with fail
            refine (drawLeastBid_any A cap bs wc hrd).mono ?_
            rintro e v0 ⟨AM, cm, m, rfl, hO, hm9, hb0⟩
            have S0 : BS w v0 AM m := ⟨HS9.out.tab.then hb0, HS9.out.bl.trans (hb0.mono HS9.out.bl.size), ownsRow_reads hO⟩
            clear hO hb0 hrd HS9
            have lI := fun W h => implLeast_any AM cm m W h
            have lS := fun W h => specLeast_any AM cm m W h
            have HBF := Lib.hid (bid_facts (l := m))
            obtain ⟨lr, hlr⟩ : ∃ b, leastR m = b := ⟨_, rfl⟩
            obtain ⟨lo, hlo⟩ : ∃ b, leastOk m = b := ⟨_, rfl⟩
            simp only [hlr, hlo] at lI lS HBF
            have HLR := Lib.hid (fun h => least_range (l := m) h)
            simp only [hlr, hlo] at HLR
            clear hlr hlo
            have hn0 : (lr != lr) = false := by simp
            have hn1 : (lo != lo) = false := by cases lo <;> rfl
            go_wp2_with fail
            refine (lI v0 S0.x).mono ?_
            rintro e v1 ⟨rfl, hb1⟩
            have S1 := S0.then hb1
            clear hb1 S0 lI
            go_wp2_with fail
            refine (lS v1 S1.x).mono ?_
            rintro e v2 ⟨rfl, hb1⟩
            have S2 := S1.then hb1
            clear hb1 S1 lS
            go_upto_if 201 with fail
            go_cut [] (fun wx => Below v2.heap.size v2 wx)
            case first => as_aux_lemma =>
              cases lo
              · go_wp2_with fail
                go_meet
                case rel => exact Below.refl _ _
              · obtain ⟨hr1, hr2⟩ := HLR.out rfl
                have HB1 := Lib.hid (HBF.out rfl)
                have hw : IntKind.i64.wrap (lr - 1) = lr - 1 := IntWalk.i64_in _ (by omega)
                have s1 := fun W h => implStepAuc_any AM cm m ⟨4, 0, 1, lr⟩ W h
                have s2 := fun W h => implStepAuc_any AM cm m ⟨4, 0, 2, lr⟩ W h
                have s3 := fun W h => implStepAuc_any AM cm m ⟨4, 0, 1, lr - 1⟩ W h
                clear HBF HLR
                go_wp2_with fail
                refine (s1 v2 S2.x).mono ?_
                rintro e v3 ⟨x1, rfl, _, hb3⟩
                have S3 := S2.then hb3
                clear S2 s1
                go_wp2_with fail
                refine (s2 v3 S3.x).mono ?_
                rintro e v4 ⟨x2, rfl, _, hb4⟩
                have S4 := S3.then hb4
                clear S3 s2
                go_wp2_with fail
                refine (s3 v4 S4.x).mono ?_
                rintro e v5 ⟨x3, rfl, _, hb5⟩
                have HB5 := Lib.hid (bthen hb3 (bthen hb4 hb5))
                clear S4 s3 hb3 hb4 hb5
                generalize stepA m ⟨4, 0, 1, lr⟩ = r1 at HB1 ⊢
                generalize stepA m ⟨4, 0, 2, lr⟩ = r2 at HB1 ⊢
                generalize stepA m ⟨4, 0, 1, lr - 1⟩ = r3 at HB1 ⊢
                obtain ⟨i1, hi1⟩ : ∃ b, r1.isSome = b := ⟨_, rfl⟩
                obtain ⟨i2, hi2⟩ : ∃ b, r2.isSome = b := ⟨_, rfl⟩
                obtain ⟨i3, hi3⟩ : ∃ b, r3.isSome = b := ⟨_, rfl⟩
                rw [hi1, hi2, hi3] at HB1
                simp only [hi1, hi2, hi3]
                clear hi1 hi2 hi3
                obtain ⟨h12, h3⟩ := HB1.out
                clear HB1
                subst h3
                cases i1
                · have h2 : i2 = true := by simpa using h12
                  subst h2
                  clear h12
                  go_wp2_with fail
                  go_meet
                  case rel => exact HB5.out
                · clear h12
                  go_wp2_with fail
                  go_meet
                  case rel => exact HB5.out
            case rest => as_aux_lemma =>
              have HS9 := Lib.hid (S2.then hcut)
              clear S2 hcut HBF HLR hn0 hn1
              have hrd : BytesR wc wc.heap.size A bs := SlcR.up HBR.out HS9.out.bl (Nat.le_refl _)
              go_wp2_with fail
              refine (drawSaleText_any A cap bs wc hrd).mono ?_
              rintro e v0 ⟨y, rfl, hb0⟩
              have ht0 := HS9.out.tab.then hb0
              have b0 := HS9.out.bl.trans (hb0.mono HS9.out.bl.size)
              clear HS9 hb0 hrd
              have xI := fun W h => implSale_any y W h
              have xS := fun W => specSale_any y W
              obtain ⟨T, hT⟩ : ∃ b, saleT y = b := ⟨_, rfl⟩
              obtain ⟨yo, hyo⟩ : ∃ b, y.ok = b := ⟨_, rfl⟩
              simp only [hT, hyo] at xI xS
              clear hT hyo
              have hal : Below v0.heap.size v0 (v0.alloc (.cells #[.int .i64 y.i, .int .i64 y.r, .int .i64 y.s, .int .i64 y.h, .int .i64 y.b] 41)) := (Below.refl v0.heap.size v0).alloc (Nat.le_refl _) (.cells #[.int .i64 y.i, .int .i64 y.r, .int .i64 y.s, .int .i64 y.h, .int .i64 y.b] 41)
              have L1 := Lies.new v0 41 #[.int .i64 y.i, .int .i64 y.r, .int .i64 y.s, .int .i64 y.h, .int .i64 y.b]
              have ht1 := ht0.then hal
              have b1 := b0.trans (hal.mono b0.size)
              clear ht0 b0 hal
              go_upto_region 44 with fail
              generalize (v0.alloc (.cells #[.int .i64 y.i, .int .i64 y.r, .int .i64 y.s, .int .i64 y.h, .int .i64 y.b] 41)) = v1 at L1 ht1 b1 ⊢
              generalize v0.heap.size = gy at L1 ⊢
              have c0 := L1.cell 0
              have c1 := L1.cell 1
              have c2 := L1.cell 2
              have c3 := L1.cell 3
              have c4 := L1.cell 4
              simp only [List.getElem?_cons_zero, List.getElem?_cons_succ] at c0 c1 c2 c3 c4
              go_wp2_with fail
              refine (xI v1 ht1).mono ?_
              rintro e v2 ⟨rfl, hb2⟩
              have L2 := L1.below hb2 L1.lt
              have b2 := b1.trans (hb2.mono b1.size)
              clear c0 c1 c2 c3 c4 L1 b1 ht1 hb2 xI
              have d0 := L2.cell 0
              have d1 := L2.cell 1
              have d2 := L2.cell 2
              have d3 := L2.cell 3
              have d4 := L2.cell 4
              simp only [List.getElem?_cons_zero, List.getElem?_cons_succ] at d0 d1 d2 d3 d4
              go_wp2_with fail
              refine (xS v2).mono ?_
              rintro e v3 ⟨rfl, hb3⟩
              have b3 := Lib.hid (b2.trans (hb3.mono b2.size))
              clear d0 d1 d2 d3 d4 L2 b2 hb3 xS
              have hy : (yo == yo) = true := by cases yo <;> rfl
              go_wp2
              refine bodyPost_ret (v := .bool true) (by simp [results, Tryd.results3, go_sem, *]) rfl ⟨rfl, b3.out⟩

end Go.Proofs.YtkokbmmffkpclaaDoor

/- Arguments that came in: from the reader's own reading to plain words (no program in sight). -/
namespace Go.Proofs.YtkokbmmffkpclaaDoor
open Go.ChangeShapes Go.WideShapes Go.ChangeAt Go.RowKit Go.Deep

section
variable {H : Type} {enc : TypeId × Value → H} {P : Program} {w : World} {base : Nat} {spare : Nat → Bool} {held : Bool}

/-- The fields of a struct of one-cell fields: place by place. -/
theorem trod_fields {e : TypeId} {fs : Array Field} {n : Nat} {cs : List Value} {x : DataW H × List MemPlace} (he : P.underlying e = some (.struct fs)) (hone : oneCellFields P fs = true) (hC : P.cellsOf e = fs.size)
    (h : DataW.trod enc P w base spare held n e cs = some x) :
    cs.length = fs.size ∧ ∀ (j : Nat) (f : Field), fs[j]? = some f → ∃ v m y, cs[j]? = some v ∧ DataW.trod enc P w base spare held m f.type [v] = some y := by
  obtain ⟨ys, n', _, _, hlen, hyl, hf⟩ := DataW.trod_struct he h
  refine ⟨by rw [hlen, hC], fun j f hj => ?_⟩
  obtain ⟨ho, hk⟩ := hone_of hone j f hj
  have hjl : j < fs.size := (Array.getElem?_eq_some_iff.1 hj).1
  have hjc : j < cs.length := by rw [hlen, hC]; exact hjl
  have h1 := hf j f hj
  rw [ho, hk, List.drop_eq_getElem_cons hjc] at h1
  have hys : ys[j]? = some (ys[j]'(by omega)) := List.getElem?_eq_getElem (by omega)
  exact ⟨_, n', _, List.getElem?_eq_getElem hjc, h1.trans hys⟩

theorem cell_spot {w : World} {a : Addr} {u : Value} (h : w.cell? a = some u) : ∃ b off, a = ⟨b, off, none⟩ ∧ b < w.heap.size := by
  obtain ⟨b, off, sp⟩ := a
  cases sp with
  | none => exact ⟨b, off, rfl, block_lt_of_cell h⟩
  | some s =>
    simp only [World.cell?] at h
    split at h <;> simp_all

/-- A slice that came in, whatever its elements: k cells each; what the reader knows of an element's cells. -/
theorem trod_slc {t e : TypeId} {k n : Nat} {v : Value} {x : DataW H × List MemPlace} (ht : P.underlying t = some (.slice e)) (hk : P.cellsOf e = k) (hk0 : 0 < k)
    (h : DataW.trod enc P w base spare held n t [v] = some x) :
    ∃ A len cap, v = .slice A len cap ∧ ∃ css : List (List Value), css.length = len ∧ SlcR w w.heap.size k A len css.flatten ∧
      ∀ cs ∈ css, cs.length = k ∧ ∃ m y, DataW.trod enc P w base spare held m e cs = some y := by
  rcases open_slice ht h with ⟨h0, _⟩ | ⟨a, len, cap, m, n', D, Pl, hcs, hb, hl, hm, hmm, hx, hi⟩
  · have : v = .slice none 0 0 := by simpa using h0
    exact ⟨none, 0, 0, this, [], rfl, SlcR.nil _ _ _ _, by simp⟩
  · have hv : v = .slice (some a) len cap := by simpa using hcs
    have hle : len ≤ m := by rw [hmm]; split <;> omega
    rw [hk] at hi
    have hsel : ∀ i : Nat, ∃ cs : List Value, cs.length = k ∧ (i < len → (∀ j u, cs[j]? = some u → w.cell? ((a.add (i * k)).add j) = some u) ∧ ∃ m y, DataW.trod enc P w base spare held m e cs = some y) := fun i => by
      by_cases hlt : i < len
      · obtain ⟨cs', hc, ht'⟩ := hi i (by omega)
        obtain ⟨_, hcl, hat⟩ := World.cells?_some hc
        exact ⟨cs', hcl, fun _ => ⟨fun j u hu => by
          have hj : j < cs'.length := (List.getElem?_eq_some_iff.1 hu).1
          rw [hat j (by omega), hu], _, _, ht'⟩⟩
      · exact ⟨List.replicate k undef, by simp, fun h => absurd h hlt⟩
    obtain ⟨f, hf⟩ := Classical.axiomOfChoice hsel
    have hfk : ∀ i, (f i).length = k := fun i => (hf i).1
    have hlen := flat_len f k hfk (List.range len)
    rw [List.length_range, List.flatMap_def] at hlen
    refine ⟨some a, len, cap, hv, (List.range len).map f, by simp, ⟨hlen, by unfold maxLen at hm; omega, fun hpos => ?_⟩, ?_⟩
    · have h00 : (f 0)[0]? = some ((f 0)[0]'(by rw [hfk]; exact hk0)) := List.getElem?_eq_getElem _
      have hc0 := ((hf 0).2 hpos).1 0 _ h00
      rw [Nat.zero_mul] at hc0
      obtain ⟨b, off, rfl, hb'⟩ := cell_spot (a := a) hc0
      refine ⟨b, off, rfl, hb', fun j u hu => ?_⟩
      have hj : j < len * k := by rw [← hlen]; exact (List.getElem?_eq_some_iff.1 hu).1
      have hi' : j / k < len := Nat.div_lt_of_lt_mul (by rw [Nat.mul_comm]; exact hj)
      have hr : j % k < k := Nat.mod_lt _ hk0
      have e : j = j / k * k + j % k := by rw [Nat.mul_comm]; exact (Nat.div_add_mod j k).symm
      have hat := flat_at f k hfk (List.range len) (j / k) (by simpa using hi') (j % k) hr
      rw [List.flatMap_def, ← e, List.getElem_range, hu] at hat
      have hc := ((hf (j / k)).2 hi').1 (j % k) u hat.symm
      have hadd : ((⟨b, off, none⟩ : Addr).add (j / k * k)).add (j % k) = ⟨b, off + j, none⟩ := by
        unfold Addr.add
        by_cases h1 : j / k * k = 0 <;> by_cases h2 : j % k = 0 <;> simp [h1, h2] <;> omega
      rw [hadd] at hc
      exact hc
    · intro cs hcs
      obtain ⟨i, hi, rfl⟩ := List.mem_map.1 hcs
      exact ⟨hfk i, ((hf i).2 (List.mem_range.1 hi)).2⟩
end

/-- A list of lists of cells, each the image of something. -/
theorem lift_list {α : Type} (enc : α → List Value) : ∀ css : List (List Value), (∀ cs ∈ css, ∃ x, cs = enc x) → ∃ l : List α, css.flatten = l.flatMap enc ∧ l.length = css.length
  | [], _ => ⟨[], rfl, rfl⟩
  | cs :: css, h => by
    obtain ⟨x, hx⟩ := h cs (by simp)
    obtain ⟨l, hl, hn⟩ := lift_list enc css (fun c hc => h c (by simp [hc]))
    exact ⟨x :: l, by simp [hl, hx], by simp [hn]⟩

section
variable {H : Type} {enc : TypeId × Value → H} {P : Program} {w : World} {base : Nat} {spare : Nat → Bool} {held : Bool}
/-- A field that is an int. -/
theorem trod_i64 {t : TypeId} {n : Nat} {v : Value} {x : DataW H × List MemPlace} (ht : P.underlying t = some (.int .i64)) (h : DataW.trod enc P w base spare held n t [v] = some x) :
    ∃ m : Int, v = .int .i64 m ∧ -9223372036854775808 ≤ m ∧ m ≤ 9223372036854775807 := by
  obtain ⟨m, e, _, hw⟩ := DataW.trod_int ht h
  refine ⟨m, by simpa using e, ?_⟩
  simp [Lit.wf, IntKind.min, IntKind.max, IntKind.signed, IntKind.bits] at hw
  omega
end

/-- Structs of ints alone. -/
def intFields (P : Program) (fs : Array Field) : Bool := fs.all fun f => match P.underlying f.type with | some (.int .i64) => true | _ => false
theorem intFields_at {P : Program} {fs : Array Field} (h : intFields P fs = true) (j : Nat) (f : Field) (hj : fs[j]? = some f) : P.underlying f.type = some (.int .i64) := by
  have := (Array.all_eq_true_iff_forall_mem.1 h) f (Array.mem_of_getElem? hj)
  split at this
  · assumption
  · cases this

section
variable {H : Type} {enc : TypeId × Value → H} {P : Program} {w : World} {base : Nat} {spare : Nat → Bool} {held : Bool}
theorem trod_int_cells {e : TypeId} {fs : Array Field} {n k : Nat} {cs : List Value} {x : DataW H × List MemPlace} (he : P.underlying e = some (.struct fs)) (hone : oneCellFields P fs = true) (hC : P.cellsOf e = fs.size) (hint : intFields P fs = true) (hk : fs.size = k)
    (h : DataW.trod enc P w base spare held n e cs = some x) : ∃ ns : List Int, ns.length = k ∧ cs = ns.map (Value.int .i64) := by
  obtain ⟨hl, hf⟩ := trod_fields he hone hC h
  subst hk
  refine ⟨cs.map fun v => match v with | .int _ m => m | _ => 0, by simpa using hl, List.ext_getElem? fun j => ?_⟩
  rw [List.getElem?_map, List.getElem?_map]
  by_cases hj : j < cs.length
  · obtain ⟨v, m, y, hv, hy⟩ := hf j (fs[j]'(by omega)) (Array.getElem?_eq_getElem (by omega))
    obtain ⟨z, rfl, _, _⟩ := trod_i64 (intFields_at hint j _ (Array.getElem?_eq_getElem (by omega))) hy
    rw [hv]; rfl
  · rw [List.getElem?_eq_none (by omega)]; rfl

/-- A struct of ints, by value. -/
theorem open_int_struct {t : TypeId} {fs : Array Field} {k b0 : Nat} {r : Reach} {v : Value} {d : DataW H} {p : List MemPlace} (he : P.underlying t = some (.struct fs)) (hone : oneCellFields P fs = true) (hC : P.cellsOf t = fs.size) (hint : intFields P fs = true) (hk : fs.size = k)
    (hv : Value.okWide P w r b0 t v) (h : DataW.Trod enc P w base spare held t v d p) : ∃ ns : List Int, ns.length = k ∧ v = .agg (ns.map (Value.int .i64)).toArray := by
  obtain ⟨cs, rfl, hsz⟩ := okWide_struct he hv
  obtain ⟨n, hn⟩ := h
  obtain ⟨ns, hl, hc⟩ := trod_int_cells he hone hC hint hk hn
  refine ⟨ns, hl, ?_⟩
  rw [← hc]; simp [Value.cells]

/-- A slice of structs of ints. -/
theorem open_int_structs {α : Type} (en : α → List Value) {t e : TypeId} {fs : Array Field} {k b0 : Nat} {r : Reach} {v : Value} {d : DataW H} {p : List MemPlace} (ht : P.underlying t = some (.slice e)) (he : P.underlying e = some (.struct fs)) (hone : oneCellFields P fs = true) (hC : P.cellsOf e = fs.size) (hint : intFields P fs = true) (hk : fs.size = k) (hk0 : 0 < k)
    (hen : ∀ ns : List Int, ns.length = k → ∃ x, ns.map (Value.int .i64) = en x)
    (hv : Value.okWide P w r b0 t v) (h : DataW.Trod enc P w base spare held t v d p) : ∃ A c, ∃ l : List α, v = .slice A l.length c ∧ SlcR w w.heap.size k A l.length (l.flatMap en) := by
  obtain ⟨A, len, cap, rfl⟩ := okWide_slice ht hv
  obtain ⟨n, hn⟩ := h
  obtain ⟨A', len', cap', e', css, hl, hS, hcs⟩ := trod_slc ht (hC.trans hk) hk0 hn
  injection e' with e1 e2 e3
  subst e1; subst e2; subst e3
  obtain ⟨l, hfl, hll⟩ := lift_list en css (fun cs hc => by
    obtain ⟨hlen, m, y, hy⟩ := hcs cs hc
    obtain ⟨ns, hn', hc'⟩ := trod_int_cells he hone hC hint hk hy
    obtain ⟨x, hx⟩ := hen ns hn'
    exact ⟨x, by rw [hc', hx]⟩)
  refine ⟨A, cap, l, by rw [hll, hl], ?_⟩
  rw [hll, hl, ← hfl]; exact hS
end
theorem i64_lo {n : Int} (h : (Lit.int .i64 n).wf = true) : -9223372036854775808 ≤ n := by
  simp [Lit.wf, IntKind.min, IntKind.max, IntKind.signed, IntKind.bits] at h; omega
theorem i64_hi {n : Int} (h : (Lit.int .i64 n).wf = true) : n ≤ 9223372036854775807 := by
  simp [Lit.wf, IntKind.min, IntKind.max, IntKind.signed, IntKind.bits] at h; omega
end Go.Proofs.YtkokbmmffkpclaaDoor

/- Arguments that came in: a slice of bytes. -/
namespace Go.Proofs.YtkokbmmffkpclaaDoor
open Go.ChangeShapes Go.WideShapes Go.ChangeAt Go.RowKit Go.Deep
section
variable {H : Type} {enc : TypeId × Value → H} {P : Program} {w : World} {base : Nat} {spare : Nat → Bool} {held : Bool}
theorem trod_u8 {t : TypeId} {n : Nat} {v : Value} {x : DataW H × List MemPlace} (ht : P.underlying t = some (.int .u8)) (h : DataW.trod enc P w base spare held n t [v] = some x) :
    ∃ b : UInt8, v = .int .u8 (b.toNat : Int) := by
  obtain ⟨m, e, _, hw⟩ := DataW.trod_int ht h
  have hb : 0 ≤ m ∧ m ≤ 255 := by
    simp [Lit.wf, IntKind.min, IntKind.max, IntKind.signed, IntKind.bits] at hw
    omega
  refine ⟨UInt8.ofNat m.toNat, ?_⟩
  have e' : v = .int .u8 m := by simpa using e
  rw [e']
  congr 1
  have : (UInt8.ofNat m.toNat).toNat = m.toNat := by
    rw [UInt8.toNat_ofNat']; omega
  rw [this]; omega
/-- A slice of bytes. -/
theorem open_bytes {t e : TypeId} {b0 : Nat} {r : Reach} {v : Value} {d : DataW H} {p : List MemPlace} (ht : P.underlying t = some (.slice e)) (he : P.underlying e = some (.int .u8)) (hC : P.cellsOf e = 1)
    (hv : Value.okWide P w r b0 t v) (h : DataW.Trod enc P w base spare held t v d p) : ∃ A c, ∃ l : List UInt8, v = .slice A l.length c ∧ BytesR w w.heap.size A l := by
  obtain ⟨A, len, cap, rfl⟩ := okWide_slice ht hv
  obtain ⟨n, hn⟩ := h
  obtain ⟨A', len', cap', e', css, hl, hS, hcs⟩ := trod_slc ht hC (by omega) hn
  injection e' with e1 e2 e3
  subst e1; subst e2; subst e3
  obtain ⟨l, hfl, hll⟩ := lift_list (fun b : UInt8 => [Value.int .u8 (b.toNat : Int)]) css (fun cs hc => by
    obtain ⟨hlen, m, y, hy⟩ := hcs cs hc
    obtain ⟨u, rfl⟩ : ∃ u, cs = [u] := by match cs, hlen with | [u], _ => exact ⟨u, rfl⟩
    obtain ⟨b, rfl⟩ := trod_u8 he hy
    exact ⟨b, rfl⟩)
  refine ⟨A, cap, l, by rw [hll, hl], ?_⟩
  rw [hfl] at hS
  have key : ∀ l : List UInt8, encBs l = l.flatMap (fun b : UInt8 => [Value.int .u8 (b.toNat : Int)]) := fun l => by
    induction l with
    | nil => rfl
    | cons a l ih => rw [List.flatMap_cons, ← ih]; rfl
  unfold BytesR
  rw [key, hll, hl]
  exact hS
end
end Go.Proofs.YtkokbmmffkpclaaDoor
