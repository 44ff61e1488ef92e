/- Fo14: the texts DrawRO OffPick VOff OffPlain RunI RunS OffMark2, joined into one file. -/
import Derived.Test.YtdiojhjkcholiaaFo03
import Derived.Test.YtdiojhjkcholiaaFo04
import Derived.Test.YtdiojhjkcholiaaFo07
import Derived.Test.YtdiojhjkcholiaaFo12
import Derived.Test.YtdiojhjkcholiaaFo13

/- The reference draws an office and steps. (Printed by gen_drun.py) -/
namespace Go.Proofs.Ytdiojhjkcholiaa
open Go.RowKit

theorem own_blk (A : Option Addr) (n c : Nat) : (Value.slice A n c).ownBlock = A.map (·.block) := by cases A <;> rfl
def sliceLen : Value → Nat
  | .slice _ n _ => n
  | _ => 0
theorem ne_so : 45 ≠ 25 := by decide
theorem ne_sc : 45 ≠ 94 := by decide
/-- What stands while steps are drawn. -/
structure RSt (w wx : World) (g : Nat) (A : Option Addr) (bs : List UInt8) (cap m g5 g7 : Nat) (y z : Oc) : Prop where
  env : Env w wx g A bs cap m
  out : Lies wx w.heap.size 25 [.slice none 0 0, .slice none 0 0, .int .i64 0, .int .i64 0, .int .i64 0]
  x : OffIn wx w.heap.size g5 y
  now : OffIn wx w.heap.size g7 z
  l1 : g < g5
  l2 : g5 < g7
  z1 : z.t.length ≤ 20
  z2 : z.o.length ≤ 20
theorem RSt.mono {w wx : World} {g : Nat} {A : Option Addr} {bs : List UInt8} {cap m m' g5 g7 : Nat} {y z : Oc} (h : RSt w wx g A bs cap m g5 g7 y z) (hm : m ≤ m') : RSt w wx g A bs cap m' g5 g7 y z := { h with env := h.env.mono hm }
/-- The cursor's call. -/
theorem row_cur {W W' : World} {B k n g m cap' : Nat} {e : TypeId} {v : Value} {xs : List Value} {A : Option Addr} {nb : Nat} (h : W.ownsRow B e k v n xs) (hne : e ≠ 94) (hg : W.grownBy W' (some g)) (hc : CurS W g A nb cap' m) : W'.ownsRow B e k v n xs := by
  obtain ⟨p, s, hL, _⟩ := hc
  exact h.kept hg (.inr (fun e => ownsRow_far h hL hne e.symm))
theorem offIn_cur {W W' : World} {B g h m cap' : Nat} {y : Oc} {A : Option Addr} {nb : Nat} (hI : OffIn W B h y) (hg : W.grownBy W' (some g)) (hne : g ≠ h) (hc : CurS W g A nb cap' m) : OffIn W' B h y := by
  obtain ⟨TA, tc, OA, oc, P⟩ := hI
  exact ⟨TA, tc, OA, oc, P.lies.kept hg (by intro e; injection e with e; exact hne e.symm), P.hg, row_cur P.t (by decide) hg hc, row_cur P.o (by decide) hg hc⟩
theorem RSt.draw {w wx wy : World} {g : Nat} {A : Option Addr} {bs : List UInt8} {cap m m' g5 g7 : Nat} {y z : Oc} (h : RSt w wx g A bs cap m g5 g7 y z) (E : Env w wy g A bs cap m') (hg : wx.grownBy wy (some g)) (hgs : w.heap.size < g) : RSt w wy g A bs cap m' g5 g7 y z :=
  ⟨E, h.out.kept hg (by intro e; injection e; omega), offIn_cur h.x hg (by have := h.l1; omega) h.env.cur, offIn_cur h.now hg (by have := h.l1; have := h.l2; omega) h.env.cur, h.l1, h.l2, h.z1, h.z2⟩
/-- A call or a new block: nothing turns. -/
theorem RSt.below {w wx wy : World} {g : Nat} {A : Option Addr} {bs : List UInt8} {cap m g5 g7 : Nat} {y z : Oc} (h : RSt w wx g A bs cap m g5 g7 y z) (hb : Below wx.heap.size wx wy) : RSt w wy g A bs cap m g5 g7 y z :=
  ⟨h.env.below hb, h.out.below hb h.out.lt, h.x.then hb, h.now.then hb, h.l1, h.l2, h.z1, h.z2⟩
theorem Env.any {w W W' : World} {g : Nat} {A : Option Addr} {bs : List UInt8} {cap m : Nat} {row : Option Nat} (E : Env w W g A bs cap m) (gr : W.grownBy W' row) (hw : ∀ b, row = some b → w.heap.size ≤ b ∧ g < b) : Env w W' g A bs cap m := by
  cases row with
  | none => exact ⟨E.cur.kept gr (by simp), E.rd.keep fun p hp => grown_cell gr p (by have := E.lt; omega) (by simp), grown_trans E.gr ⟨gr.os, gr.tape, gr.output, gr.size, fun j hj _ => gr.block j hj (by simp)⟩⟩
  | some b => exact E.wrote gr (hw b rfl).1 (hw b rfl).2
theorem offIn_push {W W' : World} {B B' h n : Nat} {y : Oc} {v : Value} {xs : List Value} (hI : OffIn W B h y) (ho : W.ownsRow B' 45 4 v n xs) (hg : W.grownBy W' v.ownBlock) : OffIn W' B h y := by
  obtain ⟨TA, tc, OA, oc, P⟩ := hI
  exact ⟨TA, tc, OA, oc, P.lies.kept hg (ownsRow_far ho P.lies ne_so), P.hg, ownsRow_two P.t ho (by decide) hg, ownsRow_two P.o ho (by decide) hg⟩
theorem RSt.push {w wx wy : World} {g : Nat} {A : Option Addr} {bs : List UInt8} {cap m g5 g7 B n : Nat} {y z : Oc} {v : Value} {xs : List Value} (h : RSt w wx g A bs cap m g5 g7 y z) (ho : wx.ownsRow B 45 4 v n xs) (hB : g < B) (hwg : w.heap.size < g) (hg : wx.grownBy wy v.ownBlock) : RSt w wy g A bs cap m g5 g7 y z :=
  ⟨h.env.any hg (fun b e => by have := (ho.lt b e).1; exact ⟨by omega, by omega⟩), h.out.kept hg (ownsRow_far ho h.out ne_so), offIn_push h.x ho hg, offIn_push h.now ho hg, h.l1, h.l2, h.z1, h.z2⟩
theorem RSt.store {w wx : World} {g : Nat} {A : Option Addr} {bs : List UInt8} {cap m g5 g7 : Nat} {y z r : Oc} {TA OA : Option Addr} {tc oc : Nat} (h : RSt w wx g A bs cap m g5 g7 y z) (hT : wx.ownsRow w.heap.size 74 2 (.slice TA r.t.length tc) r.t.length (r.t.flatMap Tray.enc)) (hO : wx.ownsRow w.heap.size 100 3 (.slice OA r.o.length oc) r.o.length (r.o.flatMap Outing.enc)) (hwg : w.heap.size < g) (hr1 : r.t.length ≤ 20) (hr2 : r.o.length ≤ 20) :
    RSt w (stOff wx g7 (.slice TA r.t.length tc) (.slice OA r.o.length oc) (.int .i64 r.got) (.int .i64 r.sold) (.int .i64 r.missed)) g A bs cap m g5 g7 y r := by
  obtain ⟨TA7, tc7, OA7, oc7, P7⟩ := h.now
  obtain ⟨TA5, tc5, OA5, oc5, P5⟩ := h.x
  have l1 := h.l1
  have l2 := h.l2
  exact ⟨h.env.wrote stOff_grown (by omega) (by omega), stOff_other h.out (by omega), ⟨TA5, tc5, OA5, oc5, stOff_other P5.lies (by omega), P5.hg, stOff_row P7.lies P5.t ne_owt, stOff_row P7.lies P5.o ne_owo⟩, OwnV.store hT hO P7.lies (by omega), l1, l2, hr1, hr2⟩

set_option maxRecDepth 100000 in
set_option maxHeartbeats 8000000 in
set_option linter.unusedVariables false in
theorem drawRunOffice_any (A : Option Addr) (cap : Nat) (bs : List UInt8) (w : World) (hr : BytesR w w.heap.size A bs) :
    Calls Try.prog 35 #[.slice A bs.length cap] w fun e w' => ∃ (y : Oc) (l : List Stp) (v u : Value), e = .returned (.tuple #[v, u]) ∧ OwnV w' w.heap.size y v ∧ (∃ A' c', u = .slice A' l.length c' ∧ w'.ownsRow w.heap.size 45 4 u l.length (l.flatMap Stp.enc)) ∧ l.length ≤ 1000 ∧ Below w.heap.size w w' := by
  have L2 := (Lies.new w 25 #[.slice none 0 0, .slice none 0 0, .int .i64 0, .int .i64 0, .int .i64 0]).alloc (.cells #[.slice A bs.length cap, .int .i64 0, .int .u64 0] 94)
  have Lc := Lies.new1 w (.cells #[.slice none 0 0, .slice none 0 0, .int .i64 0, .int .i64 0, .int .i64 0] 25) 94 #[.slice A bs.length cap, .int .i64 0, .int .u64 0]
  have b1 : Below w.heap.size w ((w.alloc (.cells #[.slice none 0 0, .slice none 0 0, .int .i64 0, .int .i64 0, .int .i64 0] 25)).alloc (.cells #[.slice A bs.length cap, .int .i64 0, .int .u64 0] 94)) := ((Below.refl w.heap.size w).alloc (Nat.le_refl _) (.cells #[.slice none 0 0, .slice none 0 0, .int .i64 0, .int .i64 0, .int .i64 0] 25)).alloc (by simp) (.cells #[.slice A bs.length cap, .int .i64 0, .int .u64 0] 94)
  go_enter Try.func35, Try.ntmps35
  go_wp2_with fail
  generalize ((w.alloc (.cells #[.slice none 0 0, .slice none 0 0, .int .i64 0, .int .i64 0, .int .i64 0] 25)).alloc (.cells #[.slice A bs.length cap, .int .i64 0, .int .u64 0] 94)) = W1 at L2 Lc b1 ⊢
  have E1 : Env w W1 (w.heap.size + 1) A bs cap 0 := ⟨⟨0, 0, Lc, Nat.le_refl _, by omega, by omega⟩, (SlcR.below hr b1).mono (by omega), grownAny b1 _⟩
  have hgl := Lc.lt
  clear hr Lc
  refine (office_any (w.heap.size + 1) A bs cap 0 w W1 (by omega) E1).mono ?_
  rintro e W2 ⟨y, v, rfl, ⟨TA, tc, OA, oc, rfl, hT, hO⟩, ⟨hy1, hy2⟩, E2, gr2⟩
  have K5 := (((Lies.new W2 25 #[.slice TA y.t.length tc, .slice OA y.o.length oc, .int .i64 y.got, .int .i64 y.sold, .int .i64 y.missed]).alloc (.cells #[] 45)).alloc (.cells #[.slice TA y.t.length tc, .slice OA y.o.length oc, .int .i64 y.got, .int .i64 y.sold, .int .i64 y.missed] 25))
  have hsl := World.ownsRow_lit (base := w.heap.size + 1 + 1) (e := 45) (size := 4) (W2.alloc (.cells #[.slice TA y.t.length tc, .slice OA y.o.length oc, .int .i64 y.got, .int .i64 y.sold, .int .i64 y.missed] 25)) #[] 0 (by have := gr2.size; simp; omega) (by decide) rfl
  have hz : (W2.alloc (.cells #[.slice TA y.t.length tc, .slice OA y.o.length oc, .int .i64 y.got, .int .i64 y.sold, .int .i64 y.missed] 25)).heap.size = W2.heap.size + 1 := by simp
  rw [hz] at hsl
  have K7 := Lies.new ((W2.alloc (.cells #[.slice TA y.t.length tc, .slice OA y.o.length oc, .int .i64 y.got, .int .i64 y.sold, .int .i64 y.missed] 25)).alloc (.cells #[] 45)) 25 #[.slice TA y.t.length tc, .slice OA y.o.length oc, .int .i64 y.got, .int .i64 y.sold, .int .i64 y.missed]
  have hz2 : ((W2.alloc (.cells #[.slice TA y.t.length tc, .slice OA y.o.length oc, .int .i64 y.got, .int .i64 y.sold, .int .i64 y.missed] 25)).alloc (.cells #[] 45)).heap.size = W2.heap.size + 1 + 1 := by simp
  rw [hz2] at K7
  have hT7 := ownsRow_lower (((hT.alloc (.cells #[.slice TA y.t.length tc, .slice OA y.o.length oc, .int .i64 y.got, .int .i64 y.sold, .int .i64 y.missed] 25)).alloc (.cells #[] 45)).alloc (.cells #[.slice TA y.t.length tc, .slice OA y.o.length oc, .int .i64 y.got, .int .i64 y.sold, .int .i64 y.missed] 25)) b1.size
  have hO7 := ownsRow_lower (((hO.alloc (.cells #[.slice TA y.t.length tc, .slice OA y.o.length oc, .int .i64 y.got, .int .i64 y.sold, .int .i64 y.missed] 25)).alloc (.cells #[] 45)).alloc (.cells #[.slice TA y.t.length tc, .slice OA y.o.length oc, .int .i64 y.got, .int .i64 y.sold, .int .i64 y.missed] 25)) b1.size
  have hs2 := gr2.size
  have Q0 : RSt w (((W2.alloc (.cells #[.slice TA y.t.length tc, .slice OA y.o.length oc, .int .i64 y.got, .int .i64 y.sold, .int .i64 y.missed] 25)).alloc (.cells #[] 45)).alloc (.cells #[.slice TA y.t.length tc, .slice OA y.o.length oc, .int .i64 y.got, .int .i64 y.sold, .int .i64 y.missed] 25)) (w.heap.size + 1) A bs cap 100000 W2.heap.size (W2.heap.size + 1 + 1) y y :=
    ⟨((E2.alloc _).alloc _).alloc _, (((L2.kept gr2 (by intro e; injection e; omega)).alloc _).alloc _).alloc _, ⟨TA, tc, OA, oc, K5, by omega, hT7, hO7⟩, ⟨TA, tc, OA, oc, K7, by omega, hT7, hO7⟩, by omega, by omega, hy1, hy2⟩
  have HL := Lib.hid (hsl.alloc (.cells #[.slice TA y.t.length tc, .slice OA y.o.length oc, .int .i64 y.got, .int .i64 y.sold, .int .i64 y.missed] 25))
  clear K5 hsl hz K7 hz2 hT7 hO7 hT hO L2 E2 gr2 E1 b1
  go_wp2_with fail
  generalize (((W2.alloc (.cells #[.slice TA y.t.length tc, .slice OA y.o.length oc, .int .i64 y.got, .int .i64 y.sold, .int .i64 y.missed] 25)).alloc (.cells #[] 45)).alloc (.cells #[.slice TA y.t.length tc, .slice OA y.o.length oc, .int .i64 y.got, .int .i64 y.sold, .int .i64 y.missed] 25)) = W3 at Q0 HL ⊢
  generalize W2.heap.size = g5 at Q0 HL hs2 ⊢
  refine (pick_env Q0.env 12 (by omega) (by omega)).mono ?_
  rintro e W4 ⟨n, rfl, hn, E4, gr4⟩
  have HQ := Lib.hid ((Q0.draw E4 gr4 (by omega)).mono (show 100000 + 2 ≤ 100010 + 1000 * (12 - n) by omega))
  have HL := Lib.hid (row_cur HL.out ne_sc gr4 Q0.env.cur)
  have hw4 : w.heap.size + 1 + 1 ≤ W4.heap.size := by have := Q0.env.lt; have := gr4.size; omega
  clear Q0 E4 gr4
  go_wp2_with fail
  go_loopw [6, 8, 9, 10, 11] (fun out i _ _ _ wr => ∃ (k : Nat) (z : Oc) (l : List Stp), k ≤ 12 ∧ i = .int .i64 k ∧ l.length ≤ 12 - k ∧ w.heap.size + 1 + 1 ≤ wr.heap.size ∧ Hid (wr.ownsRow (w.heap.size + 1 + 1) 45 4 out l.length (l.flatMap Stp.enc)) ∧ Hid (RSt w wr (w.heap.size + 1) A bs cap (100010 + 1000 * (12 - k)) g5 (g5 + 1 + 1) y z)) (fun _ i _ _ _ _ => (intOf i).toNat)
  case atStart => exact ⟨n, y, [], by omega, rfl, by simp, hw4, HL, HQ⟩
  case round =>
    clear HL HQ hw4
    obtain ⟨k, z, l, hk, rfl, hl, hwr, HL, HQ⟩ := hrel
    by_cases hlt : 0 < k
    · have hlt' : (0 : Int) < k := by omega
      have Q := HQ.out
      obtain ⟨A6, c6, rfl⟩ := ownsRow_slice HL.out
      obtain ⟨TA7, tc7, OA7, oc7, P7⟩ := Q.now
      have K7 := P7.lies
      have c0 := K7.cell 0
      have c1 := K7.cell 1
      have c2 := K7.cell 2
      have c3 := K7.cell 3
      have c4 := K7.cell 4
      simp only [List.getElem?_cons_zero, List.getElem?_cons_succ] at c0 c1 c2 c3 c4
      go_wp2_with fail
      refine (officeStep_any (z.at TA7 tc7 OA7 oc7) (w.heap.size + 1) A bs cap _ w wr (by omega) (by have := Q.z1; show z.t.length ≤ _; omega) (by have := Q.z2; show z.o.length ≤ _; omega) Q.env ⟨ownsRow_reads P7.t, ownsRow_reads P7.o⟩ (fun b e h => by obtain ⟨p, sd, hLc, _⟩ := Q.env.cur; exact ownsRow_far P7.t hLc (by decide) (by subst h; exact ((own_blk TA7 _ _).trans e).symm)) (fun b e h => by obtain ⟨p, sd, hLc, _⟩ := Q.env.cur; exact ownsRow_far P7.o hLc (by decide) (by subst h; exact ((own_blk OA7 _ _).trans e).symm))).mono ?_
      rintro e W5 ⟨s, rfl, E5, gr5⟩
      have Q5 := Q.draw E5 gr5 (by omega)
      have hL5 := row_cur HL.out ne_sc gr5 Q.env.cur
      have hal := (Below.refl W5.heap.size W5).alloc (Nat.le_refl _) (.cells #[.int .i64 s.kind, .int .i64 s.stamp, .int .i64 s.person, .int .i64 s.value] 45)
      have LS := Lies.new W5 45 #[.int .i64 s.kind, .int .i64 s.stamp, .int .i64 s.person, .int .i64 s.value]
      have HL5 := Lib.hid (ownsRow_below hL5 hal)
      have Q6 := Q5.below hal
      have hw5 : w.heap.size + 1 + 1 ≤ W5.heap.size := Nat.le_trans hwr gr5.size
      have HB5 : Hid (∀ b, Value.ownBlock (.slice A6 l.length c6) = some b → b < W5.heap.size) := fun b e => (hL5.lt b e).2
      clear Q Q5 hL5 HL HQ K7 P7 c0 c1 c2 c3 c4 E5 gr5 hal
      go_upto_region 9 with fail
      generalize W5.alloc (.cells #[.int .i64 s.kind, .int .i64 s.stamp, .int .i64 s.person, .int .i64 s.value] 45) = W6 at LS HL5 Q6 ⊢
      have hw6 : w.heap.size + 1 + 1 ≤ W6.heap.size := by have := Q6.env.lt; omega
      have hls := LS.lt
      generalize W5.heap.size = g9 at LS hls hw5 HB5 ⊢
      have d0 := LS.cell 0
      have d1 := LS.cell 1
      have d2 := LS.cell 2
      have d3 := LS.cell 3
      simp only [List.getElem?_cons_zero, List.getElem?_cons_succ] at d0 d1 d2 d3
      go_upto_region 10 with (at_builtin; refine wpList_push rfl _ _ 54 rfl 45 (.agg #[.int .i64 0, .int .i64 0, .int .i64 0, .int .i64 0]) 4 32 Try.underlying54 infoStp rfl (by decide) (by omega) (w.heap.size + 1 + 1) _ _ _ rfl HL5 #[.int .i64 s.kind, .int .i64 s.stamp, .int .i64 s.person, .int .i64 s.value] 1 _ rfl (by first | rfl | exact Array.size_push _) rfl (by simp [Value.oneCell']) (by omega) hw6 rfl rfl rfl rfl ?_; intro v' w3 HO3 hg3 hb3)
      have LS3 : Lies w3 g9 45 [.int .i64 s.kind, .int .i64 s.stamp, .int .i64 s.person, .int .i64 s.value] := LS.kept hg3 (fun e => by have := HB5.out g9 e.symm; omega)
      have Q3 := Q6.push HL5.out (by omega) (by omega) hg3
      have hw3 : w.heap.size + 1 + 1 ≤ w3.heap.size := Nat.le_trans hw6 hg3.size
      have HL3 : Hid (w3.ownsRow (w.heap.size + 1 + 1) 45 4 v' (l ++ [s]).length ((l ++ [s]).flatMap Stp.enc)) := Lib.hid (by
        have := HO3.out
        simpa [Stp.enc] using this)
      clear HO3 HL5 LS Q6 hg3 hb3 d0 d1 d2 d3
      obtain ⟨TA7, tc7, OA7, oc7, P7⟩ := Q3.now
      have K7 := P7.lies
      have c0 := K7.cell 0
      have c1 := K7.cell 1
      have c2 := K7.cell 2
      have c3 := K7.cell 3
      have c4 := K7.cell 4
      simp only [List.getElem?_cons_zero, List.getElem?_cons_succ] at c0 c1 c2 c3 c4
      have d0 := LS3.cell 0
      have d1 := LS3.cell 1
      have d2 := LS3.cell 2
      have d3 := LS3.cell 3
      simp only [List.getElem?_cons_zero, List.getElem?_cons_succ] at d0 d1 d2 d3
      have hIn : InV w3 z (.agg #[.slice TA7 z.t.length tc7, .slice OA7 z.o.length oc7, .int .i64 z.got, .int .i64 z.sold, .int .i64 z.missed]) := ⟨z.at TA7 tc7 OA7 oc7, rfl, rfl, ⟨ownsRow_reads P7.t, ownsRow_reads P7.o⟩, ownsRow_cap P7.t⟩
      have cS := specStepY z s w3 hIn
      have hrg := resOf_good z s
      generalize resOf (tryD z s) = r at cS hrg
      generalize (tryD z s).isSome = bb at cS
      have hrl : r.t.length ≤ 20 ∧ r.o.length ≤ 20 := by
        have G : Good (r.at none 0 none 0) := good_iff.1 hrg
        exact ⟨Nat.le_trans G.tl (by omega), Nat.le_trans G.ol (by omega)⟩
      obtain ⟨hr1, hr2⟩ := hrl
      clear hrg hIn
      go_wp2_with fail
      refine cS.mono ?_
      rintro e w4 ⟨v4, rfl, ⟨TA5, tc5, OA5, oc5, rfl, hT, hO⟩, hb4⟩
      have hal := (Below.refl w4.heap.size w4).alloc (Nat.le_refl _) (.cells #[.slice TA5 r.t.length tc5, .slice OA5 r.o.length oc5, .int .i64 r.got, .int .i64 r.sold, .int .i64 r.missed] 25)
      have h34 := bthen hb4 hal
      have Q7 := Q3.below h34
      have K10 := Lies.new w4 25 #[.slice TA5 r.t.length tc5, .slice OA5 r.o.length oc5, .int .i64 r.got, .int .i64 r.sold, .int .i64 r.missed]
      have HL7 := Lib.hid (ownsRow_below HL3.out h34)
      have hT7 := ownsRow_lower (ownsRow_below hT hal) (show w.heap.size ≤ w3.heap.size by omega)
      have hO7 := ownsRow_lower (ownsRow_below hO hal) (show w.heap.size ≤ w3.heap.size by omega)
      have hw7 : w.heap.size + 1 + 1 ≤ (w4.alloc (.cells #[.slice TA5 r.t.length tc5, .slice OA5 r.o.length oc5, .int .i64 r.got, .int .i64 r.sold, .int .i64 r.missed] 25)).heap.size := Nat.le_trans hw3 h34.size
      have hw1 : IntKind.i64.wrap ((k : Int) - 1) = (k : Int) - 1 := IntWalk.i64_in _ (by omega)
      have HK1 : Hid (((k : Int) - 1) = ((k - 1 : Nat) : Int)) := by show ((k : Int) - 1) = ((k - 1 : Nat) : Int); omega
      have K77 := K7.below h34 K7.lt
      clear c0 c1 c2 c3 c4 d0 d1 d2 d3 K7 P7 LS3 Q3 HL3 hT hO hal h34 hb4 cS
      go_upto_region 11 with fail
      generalize w4.alloc (.cells #[.slice TA5 r.t.length tc5, .slice OA5 r.o.length oc5, .int .i64 r.got, .int .i64 r.sold, .int .i64 r.missed] 25) = W7 at Q7 K10 HL7 hT7 hO7 hw7 K77 ⊢
      generalize w4.heap.size = g10 at K10 ⊢
      have x0 := K10.cell 0
      have x1 := K10.cell 1
      have x2 := K10.cell 2
      have x3 := K10.cell 3
      have x4 := K10.cell 4
      simp only [List.getElem?_cons_zero, List.getElem?_cons_succ] at x0 x1 x2 x3 x4
      have u0 := K77.cell 0
      have u1 := K77.cell 1
      have u2 := K77.cell 2
      have u3 := K77.cell 3
      have u4 := K77.cell 4
      simp only [List.getElem?_cons_zero, List.getElem?_cons_succ] at u0 u1 u2 u3 u4
      have uf0 := K77.frozen 0
      have uf1 := K77.frozen 1
      have uf2 := K77.frozen 2
      have uf3 := K77.frozen 3
      have uf4 := K77.frozen 4
      cases bb
      · have HQ7 := Lib.hid (Q7.mono (show 100010 + 1000 * (12 - k) + 100 ≤ 100010 + 1000 * (12 - (k - 1)) by omega))
        clear Q7 K10 hT7 hO7 K77 x0 x1 x2 x3 x4 u0 u1 u2 u3 u4 uf0 uf1 uf2 uf3 uf4
        go_wp2
        go_roundw
        case rel => exact ⟨k - 1, z, l ++ [s], by omega, by rw [HK1.out], by simp; omega, hw7, HL7, HQ7⟩
        case measure => simp [intOf]; omega
      · have HQ7 := Lib.hid ((Q7.store hT7 hO7 (by omega) hr1 hr2).mono (show 100010 + 1000 * (12 - k) + 100 ≤ 100010 + 1000 * (12 - (k - 1)) by omega))
        have HL8 := Lib.hid (stOff_row (v0 := .slice TA5 r.t.length tc5) (v1 := .slice OA5 r.o.length oc5) (v2 := .int .i64 r.got) (v3 := .int .i64 r.sold) (v4 := .int .i64 r.missed) K77 HL7.out ne_so)
        have hw8 : Hid (w.heap.size + 1 + 1 ≤ (stOff W7 (g5 + 1 + 1) (.slice TA5 r.t.length tc5) (.slice OA5 r.o.length oc5) (.int .i64 r.got) (.int .i64 r.sold) (.int .i64 r.missed)).heap.size) := Nat.le_trans hw7 (stOff_grown (g := g5 + 1 + 1)).size
        clear Q7 K10 hT7 hO7 K77 HL7
        go_wp2
        go_roundw
        case rel => exact ⟨k - 1, r, l ++ [s], by omega, by rw [HK1.out], by simp; omega, hw8.out, HL8, HQ7⟩
        case measure => simp [intOf]; omega
    · have hk0 : k = 0 := by omega
      subst hk0
      have Q := HQ.out
      go_wp2_with fail
      refine (one_env Q.env 24 (by omega) (by omega)).mono ?_
      rintro e W5 ⟨yes, rfl, E5, gr5⟩
      have Q5 := (Q.draw E5 gr5 (by omega)).mono (show 100010 + 1000 * (12 - 0) + 2 ≤ 113000 + 4 * l.length by omega)
      have HL := Lib.hid (row_cur HL.out ne_sc gr5 Q.env.cur)
      have hw5 : w.heap.size + 1 + 1 ≤ W5.heap.size := Nat.le_trans hwr gr5.size
      clear Q HQ E5 gr5 hwr
      cases yes
      · go_upto_region 16 with fail
        obtain ⟨TA, tc, OA, oc, P⟩ := Q5.x
        have K := P.lies
        have L2 := Q5.out
        obtain ⟨A', c', rfl⟩ := ownsRow_slice HL.out
        have k0 := K.cell 0
        have k1 := K.cell 1
        have k2 := K.cell 2
        have k3 := K.cell 3
        have k4 := K.cell 4
        simp only [List.getElem?_cons_zero, List.getElem?_cons_succ] at k0 k1 k2 k3 k4
        have z0 := L2.cell 0
        have z1 := L2.cell 1
        have z2 := L2.cell 2
        have z3 := L2.cell 3
        have z4 := L2.cell 4
        simp only [List.getElem?_cons_zero, List.getElem?_cons_succ] at z0 z1 z2 z3 z4
        have f0 := L2.frozen 0
        have f1 := L2.frozen 1
        have f2 := L2.frozen 2
        have f3 := L2.frozen 3
        have f4 := L2.frozen 4
        obtain ⟨W8, hW8⟩ : ∃ W8, (((((W5.setCell ⟨w.heap.size, 0, none⟩ (.slice TA y.t.length tc)).setCell ⟨w.heap.size, 1, none⟩ (.slice OA y.o.length oc)).setCell ⟨w.heap.size, 2, none⟩ (.int .i64 y.got)).setCell ⟨w.heap.size, 3, none⟩ (.int .i64 y.sold)).setCell ⟨w.heap.size, 4, none⟩ (.int .i64 y.missed)) = W8 := ⟨_, rfl⟩
        have HT : W8.ownsRow w.heap.size 74 2 (.slice TA y.t.length tc) y.t.length (y.t.flatMap Tray.enc) := by rw [← hW8]; exact stOff_row (v0 := .slice TA y.t.length tc) (v1 := .slice OA y.o.length oc) (v2 := .int .i64 y.got) (v3 := .int .i64 y.sold) (v4 := .int .i64 y.missed) L2 P.t ne_owt
        have HO : W8.ownsRow w.heap.size 100 3 (.slice OA y.o.length oc) y.o.length (y.o.flatMap Outing.enc) := by rw [← hW8]; exact stOff_row (v0 := .slice TA y.t.length tc) (v1 := .slice OA y.o.length oc) (v2 := .int .i64 y.got) (v3 := .int .i64 y.sold) (v4 := .int .i64 y.missed) L2 P.o ne_owo
        have HS : W8.ownsRow w.heap.size 45 4 (.slice A' l.length c') l.length (l.flatMap Stp.enc) := by rw [← hW8]; exact stOff_row (v0 := .slice TA y.t.length tc) (v1 := .slice OA y.o.length oc) (v2 := .int .i64 y.got) (v3 := .int .i64 y.sold) (v4 := .int .i64 y.missed) L2 (ownsRow_lower HL.out (by omega)) ne_so
        have LS : Lies W8 w.heap.size 25 [.slice TA y.t.length tc, .slice OA y.o.length oc, .int .i64 y.got, .int .i64 y.sold, .int .i64 y.missed] := by rw [← hW8]; exact stOff_is (v0 := .slice TA y.t.length tc) (v1 := .slice OA y.o.length oc) (v2 := .int .i64 y.got) (v3 := .int .i64 y.sold) (v4 := .int .i64 y.missed) L2
        have BB : Below w.heap.size w W8 := by rw [← hW8]; exact (grown_below Q5.env.gr (by omega)).trans (stOff_below (v0 := .slice TA y.t.length tc) (v1 := .slice OA y.o.length oc) (v2 := .int .i64 y.got) (v3 := .int .i64 y.sold) (v4 := .int .i64 y.missed) L2 (Nat.le_refl _))
        have HW8 := Lib.hid hW8
        have HLS := Lib.hid LS
        have HHT := Lib.hid HT
        have HHO := Lib.hid HO
        have HHS := Lib.hid HS
        clear hW8 LS HT HO HS L2 K P Q5
        repeat (first | go_values | go_skip | go_guarded | go_step | go_upon | simp only [])
        rw [HW8.out]
        have LS := HLS.out
        have x0 := LS.cell 0
        have x1 := LS.cell 1
        have x2 := LS.cell 2
        have x3 := LS.cell 3
        have x4 := LS.cell 4
        simp only [List.getElem?_cons_zero, List.getElem?_cons_succ] at x0 x1 x2 x3 x4
        refine bodyPost_ret (v := .tuple #[.agg #[.slice TA y.t.length tc, .slice OA y.o.length oc, .int .i64 y.got, .int .i64 y.sold, .int .i64 y.missed], .slice A' l.length c']) (by simp [results, Try.results35, go_sem, x0, x1, x2, x3, x4]) rfl ?_
        exact ⟨y, l, _, _, rfl, ⟨TA, tc, OA, oc, rfl, HHT.out, HHO.out⟩, ⟨A', c', rfl, HHS.out⟩, by omega, BB⟩
      · have HQ5 := Lib.hid Q5
        clear Q5
        go_wp2_with fail
        go_loopw [6] (fun out wr => ∃ l : List Stp, l.length ≤ 41 ∧ w.heap.size + 1 + 1 ≤ wr.heap.size ∧ Hid (wr.ownsRow (w.heap.size + 1 + 1) 45 4 out l.length (l.flatMap Stp.enc)) ∧ Hid (RSt w wr (w.heap.size + 1) A bs cap (113000 + 4 * l.length) g5 (g5 + 1 + 1) y z)) (fun out _ => 42 - sliceLen out)
        case atStart => exact ⟨l, by omega, hw5, HL, HQ5⟩
        case round =>
          clear HL HQ5 hw5 hl
          obtain ⟨l, hl, hwr, HL, HQ⟩ := hrel
          have Q := HQ.out
          obtain ⟨A6, c6, rfl⟩ := ownsRow_slice HL.out
          go_wp2_with fail
          refine (pick_env Q.env 2 (by omega) (by omega)).mono ?_
          rintro e W5 ⟨x, rfl, hx, E5, gr5⟩
          have Q5 := Q.draw E5 gr5 (by omega)
          have HL := Lib.hid (row_cur HL.out ne_sc gr5 Q.env.cur)
          have hw5 : w.heap.size + 1 + 1 ≤ W5.heap.size := Nat.le_trans hwr gr5.size
          have hw1 : IntKind.i64.wrap (40 + (x : Int)) = 40 + (x : Int) := IntWalk.i64_in _ (by omega)
          clear Q HQ E5 gr5 hwr
          by_cases hlt2 : l.length < 40 + x
          · have hlt3 : (l.length : Int) < 40 + (x : Int) := by omega
            have HQ5 := Lib.hid Q5
            clear Q5
            go_wp2_with (at_builtin; refine wpList_push rfl _ _ 54 rfl 45 (.agg #[.int .i64 0, .int .i64 0, .int .i64 0, .int .i64 0]) 4 32 Try.underlying54 infoStp rfl (by decide) (by omega) (w.heap.size + 1 + 1) _ _ _ rfl HL #[.int .i64 1, .int .i64 7, .int .i64 0, .int .i64 1] 1 _ rfl (by first | rfl | exact Array.size_push _) rfl (by simp [Value.oneCell']) (by omega) hw5 rfl rfl rfl rfl ?_; intro v' w3 HO3 hg3 hb3)
            obtain ⟨A8, c8, rfl⟩ := ownsRow_slice HO3.out
            go_roundw
            case rel => exact ⟨l ++ [⟨1, 7, 0, 1⟩], by simp; omega, Nat.le_trans hw5 hg3.size, Lib.hid (by have := HO3.out; simpa [Stp.enc] using this), Lib.hid ((HQ5.out.push HL.out (by omega) (by omega) hg3).mono (by simp; omega))⟩
            case measure => simp [sliceLen]; omega
          · have hlt3 : ¬ (l.length : Int) < 40 + (x : Int) := by omega
            go_upto_region 16 with fail
            obtain ⟨TA, tc, OA, oc, P⟩ := Q5.x
            have K := P.lies
            have L2 := Q5.out
            have k0 := K.cell 0
            have k1 := K.cell 1
            have k2 := K.cell 2
            have k3 := K.cell 3
            have k4 := K.cell 4
            simp only [List.getElem?_cons_zero, List.getElem?_cons_succ] at k0 k1 k2 k3 k4
            have z0 := L2.cell 0
            have z1 := L2.cell 1
            have z2 := L2.cell 2
            have z3 := L2.cell 3
            have z4 := L2.cell 4
            simp only [List.getElem?_cons_zero, List.getElem?_cons_succ] at z0 z1 z2 z3 z4
            have f0 := L2.frozen 0
            have f1 := L2.frozen 1
            have f2 := L2.frozen 2
            have f3 := L2.frozen 3
            have f4 := L2.frozen 4
            obtain ⟨W8, hW8⟩ : ∃ W8, (((((W5.setCell ⟨w.heap.size, 0, none⟩ (.slice TA y.t.length tc)).setCell ⟨w.heap.size, 1, none⟩ (.slice OA y.o.length oc)).setCell ⟨w.heap.size, 2, none⟩ (.int .i64 y.got)).setCell ⟨w.heap.size, 3, none⟩ (.int .i64 y.sold)).setCell ⟨w.heap.size, 4, none⟩ (.int .i64 y.missed)) = W8 := ⟨_, rfl⟩
            have HT : W8.ownsRow w.heap.size 74 2 (.slice TA y.t.length tc) y.t.length (y.t.flatMap Tray.enc) := by rw [← hW8]; exact stOff_row (v0 := .slice TA y.t.length tc) (v1 := .slice OA y.o.length oc) (v2 := .int .i64 y.got) (v3 := .int .i64 y.sold) (v4 := .int .i64 y.missed) L2 P.t ne_owt
            have HO : W8.ownsRow w.heap.size 100 3 (.slice OA y.o.length oc) y.o.length (y.o.flatMap Outing.enc) := by rw [← hW8]; exact stOff_row (v0 := .slice TA y.t.length tc) (v1 := .slice OA y.o.length oc) (v2 := .int .i64 y.got) (v3 := .int .i64 y.sold) (v4 := .int .i64 y.missed) L2 P.o ne_owo
            have HS : W8.ownsRow w.heap.size 45 4 (.slice A6 l.length c6) l.length (l.flatMap Stp.enc) := by rw [← hW8]; exact stOff_row (v0 := .slice TA y.t.length tc) (v1 := .slice OA y.o.length oc) (v2 := .int .i64 y.got) (v3 := .int .i64 y.sold) (v4 := .int .i64 y.missed) L2 (ownsRow_lower HL.out (by omega)) ne_so
            have LS : Lies W8 w.heap.size 25 [.slice TA y.t.length tc, .slice OA y.o.length oc, .int .i64 y.got, .int .i64 y.sold, .int .i64 y.missed] := by rw [← hW8]; exact stOff_is (v0 := .slice TA y.t.length tc) (v1 := .slice OA y.o.length oc) (v2 := .int .i64 y.got) (v3 := .int .i64 y.sold) (v4 := .int .i64 y.missed) L2
            have BB : Below w.heap.size w W8 := by rw [← hW8]; exact (grown_below Q5.env.gr (by omega)).trans (stOff_below (v0 := .slice TA y.t.length tc) (v1 := .slice OA y.o.length oc) (v2 := .int .i64 y.got) (v3 := .int .i64 y.sold) (v4 := .int .i64 y.missed) L2 (Nat.le_refl _))
            have HW8 := Lib.hid hW8
            have HLS := Lib.hid LS
            have HHT := Lib.hid HT
            have HHO := Lib.hid HO
            have HHS := Lib.hid HS
            clear hW8 LS HT HO HS L2 K P Q5
            repeat (first | go_values | go_skip | go_guarded | go_step | go_upon | simp only [])
            rw [HW8.out]
            have LS := HLS.out
            have x0 := LS.cell 0
            have x1 := LS.cell 1
            have x2 := LS.cell 2
            have x3 := LS.cell 3
            have x4 := LS.cell 4
            simp only [List.getElem?_cons_zero, List.getElem?_cons_succ] at x0 x1 x2 x3 x4
            refine bodyPost_ret (v := .tuple #[.agg #[.slice TA y.t.length tc, .slice OA y.o.length oc, .int .i64 y.got, .int .i64 y.sold, .int .i64 y.missed], .slice A6 l.length c6]) (by simp [results, Try.results35, go_sem, x0, x1, x2, x3, x4]) rfl ?_
            exact ⟨y, l, _, _, rfl, ⟨TA, tc, OA, oc, rfl, HHT.out, HHO.out⟩, ⟨A6, c6, rfl, HHS.out⟩, by omega, BB⟩
end Go.Proofs.Ytdiojhjkcholiaa

/- KindsAt, PersonsWith, in the reference and in the program. (Printed by gen_picks.py) -/
namespace Go.Proofs.Ytdiojhjkcholiaa
open Go.RowKit

def picks (sel : Outing → Bool) (get : Outing → Int) : List Outing → List Int
  | [] => []
  | r :: l => if sel r then get r :: picks sel get l else picks sel get l
theorem picks_yes {sel : Outing → Bool} {get : Outing → Int} {l : List Outing} {k : Nat} (h : k < l.length) (hs : sel l[k] = true) : picks sel get (l.drop k) = get l[k] :: picks sel get (l.drop (k + 1)) := by
  rw [List.drop_eq_getElem_cons h, picks, if_pos hs]
theorem picks_no {sel : Outing → Bool} {get : Outing → Int} {l : List Outing} {k : Nat} (h : k < l.length) (hs : sel l[k] = false) : picks sel get (l.drop k) = picks sel get (l.drop (k + 1)) := by
  rw [List.drop_eq_getElem_cons h, picks, if_neg (by rw [hs]; exact Bool.false_ne_true)]
theorem picks_len (sel : Outing → Bool) (get : Outing → Int) : ∀ l : List Outing, (picks sel get l).length ≤ l.length
  | [] => Nat.le_refl _
  | r :: l => by
    have := picks_len sel get l
    unfold picks
    split <;> simp <;> omega
def listOf (ok : Bool) (l : List Int) : List Int := if ok then l else []
theorem OwnS.lower {w : World} {B B' : Nat} {t : TypeId} {k : Nat} {A : Option Addr} {n : Nat} {cs : List Value} (h : OwnS w B t k A n cs) (hB : B' ≤ B) : OwnS w B' t k A n cs := by
  obtain ⟨hl, hn, h0 | ⟨g, rest, hA, hg, hh⟩⟩ := h
  · exact ⟨hl, hn, .inl h0⟩
  · exact ⟨hl, hn, .inr ⟨g, rest, hA, Nat.le_trans hB hg, hh⟩⟩
theorem infoInt : (Try.prog.info? 3).map (fun i => (i.zero, i.size, i.bytes)) = some (some (.int .i64 0), 1, 8) := by kernel_rfl

set_option maxHeartbeats 2000000 in
theorem implKindsAt_any (x : Off) (st : Int) (_hst : -9223372036854775808 ≤ st) (_hst' : st ≤ 9223372036854775807) (w : World) (h : OffR w w.heap.size x) :
    Calls Try.prog 33 #[x.val, .int .i64 st] w fun e w' => ∃ A' c', e = .returned (.tuple #[.slice A' (listOf (goodOff x && inR st 1 999) (picks (fun r : Outing => decide (r.p = st)) Outing.k x.o)).length c', .bool (goodOff x && inR st 1 999)]) ∧ OwnS w' w.heap.size 3 1 A' (listOf (goodOff x && inR st 1 999) (picks (fun r : Outing => decide (r.p = st)) Outing.k x.o)).length (encIs (listOf (goodOff x && inR st 1 999) (picks (fun r : Outing => decide (r.p = st)) Outing.k x.o))) ∧ Below w.heap.size w w' := by
  have b2 := (Below.refl w.heap.size w).alloc (Nat.le_refl _) (.cells #[.slice x.TA x.t.length x.tc, .slice x.OA x.o.length x.oc, .int .i64 x.got, .int .i64 x.sold, .int .i64 x.missed] 25)
  have hA := box_at h 25
  have hsW : (w.alloc (.cells #[.slice x.TA x.t.length x.tc, .slice x.OA x.o.length x.oc, .int .i64 x.got, .int .i64 x.sold, .int .i64 x.missed] 25)).heap.size = w.heap.size + 1 := Array.size_push _
  have HSW := Lib.hid hsW; clear hsW
  have cG := fun W hW => isOfficeValid_any x w.heap.size W hW
  cases hg : goodOff x
  · rw [hg] at cG
    clear hg
    go_enter Try.func33, Try.ntmps33
    go_wp2_with fail
    generalize (w.alloc (.cells #[.slice x.TA x.t.length x.tc, .slice x.OA x.o.length x.oc, .int .i64 x.got, .int .i64 x.sold, .int .i64 x.missed] 25)) = W at b2 hA HSW ⊢
    refine (calls_since0 (cG _ hA)).mono ?_
    rintro e w1 ⟨rfl, q1, rfl⟩
    go_wp2
    go_ret2
    show ∃ A' c', _ = Ending.returned (.tuple #[.slice A' ([] : List Int).length c', .bool false]) ∧ OwnS _ _ _ 1 A' ([] : List Int).length (encIs []) ∧ _
    exact ⟨_, _, rfl, ⟨rfl, by simp, .inl ⟨rfl, rfl⟩⟩, b2.trans (q1.below.mono b2.size)⟩
  · rw [hg] at cG
    have G := good_iff.1 hg
    have ol := G.ol
    have hl := h.os.big
    clear hg G
    obtain ⟨v2, hv2⟩ : ∃ v, inR st 1 999 = v := ⟨_, rfl⟩
    have H2 := Lib.hid hv2
    rw [hv2]
    clear hv2
    cases v2
    · go_enter Try.func33, Try.ntmps33
      go_wp2_with fail
      generalize (w.alloc (.cells #[.slice x.TA x.t.length x.tc, .slice x.OA x.o.length x.oc, .int .i64 x.got, .int .i64 x.sold, .int .i64 x.missed] 25)) = W at b2 hA HSW ⊢
      obtain ⟨p0, p1, p2, p3, p4⟩ := hA.s
      refine (calls_since0 (cG _ hA)).mono ?_
      rintro e w1 ⟨rfl, q1, rfl⟩
      go_wp2_with fail
      refine ((isPerson_any st _)).mono ?_
      rw [H2.out]
      rintro e w2 ⟨rfl, rfl⟩
      go_wp2
      go_ret2
      show ∃ A' c', _ = Ending.returned (.tuple #[.slice A' ([] : List Int).length c', .bool false]) ∧ OwnS _ _ _ 1 A' ([] : List Int).length (encIs []) ∧ _
      exact ⟨_, _, rfl, ⟨rfl, by simp, .inl ⟨rfl, rfl⟩⟩, b2.trans (q1.below.mono b2.size)⟩
    · have HF : Hid (picks (fun r : Outing => decide (r.p = st)) Outing.k (x.o.drop 0) = picks (fun r : Outing => decide (r.p = st)) Outing.k x.o) := rfl
      go_enter Try.func33, Try.ntmps33
      go_wp2_with fail
      generalize (w.alloc (.cells #[.slice x.TA x.t.length x.tc, .slice x.OA x.o.length x.oc, .int .i64 x.got, .int .i64 x.sold, .int .i64 x.missed] 25)) = W at b2 hA HSW ⊢
      obtain ⟨p0, p1, p2, p3, p4⟩ := hA.s
      have hro := hA.r.os.el
      refine (calls_since0 (cG _ hA)).mono ?_
      rintro e w1 ⟨rfl, q1, rfl⟩
      go_wp2_with fail
      refine ((isPerson_any st _)).mono ?_
      rw [H2.out]
      rintro e w2 ⟨rfl, rfl⟩
      obtain ⟨OA, hOA⟩ : ∃ A, x.OA = A := ⟨_, rfl⟩
      rw [hOA] at hro
      simp only [hOA] at p1
      clear hOA
      go_wp2
      go_loopw [6, 19] (fun out i wr => ∃ (k : Nat) (acc : List Int), k ≤ x.o.length ∧ i = .int .i64 k ∧ acc.length ≤ k ∧ Hid (wr.ownsRow W.heap.size 3 1 out acc.length (encIs acc)) ∧ (Below W.heap.size W wr) ∧ Hid (acc ++ picks (fun r : Outing => decide (r.p = st)) Outing.k (x.o.drop k) = picks (fun r : Outing => decide (r.p = st)) Outing.k x.o)) (fun _ i _ => x.o.length - (intOf i).toNat)
      case atStart => exact ⟨0, [], Nat.zero_le _, rfl, Nat.zero_le _, (World.ownsRow_nil _ _ _ _), q1.below, HF⟩
      case round =>
        obtain ⟨k, acc, hk, rfl, hacc, HO, hbr, HR⟩ := hrel
        obtain ⟨q, rfl⟩ : ∃ q : Since W.heap.size W, wr = q.val := ⟨⟨wr, hbr⟩, rfl⟩
        by_cases hlt : k < x.o.length
        · obtain ⟨b, off, rfl, hb, hcell⟩ := hro (by omega)
          obtain ⟨e0, e1, e2⟩ := hcell k hlt
          have hy := fun hv => picks_yes (sel := (fun r : Outing => decide (r.p = st))) (get := Outing.k) hlt hv
          have hn := fun hv => picks_no (sel := (fun r : Outing => decide (r.p = st))) (get := Outing.k) hlt hv
          obtain ⟨r, hre⟩ : ∃ r, r = x.o[k] := ⟨_, rfl⟩
          rw [← hre] at e0 e1 e2 hy hn
          clear hre hcell hro
          by_cases hz : r.p = st
          · have hv : (r.p == st) = true := by simp [hz]
            have HE : Hid ((acc ++ [r.k]) ++ picks (fun r : Outing => decide (r.p = st)) Outing.k (x.o.drop (k + 1)) = picks (fun r : Outing => decide (r.p = st)) Outing.k x.o) := by
              have h1 := HR.out; rw [hy (decide_eq_true hz)] at h1; unfold Hid; rw [List.append_assoc]; exact h1
            clear hy hn hz HR
            have HOW := Lib.hid (HO.out.alloc (.cells #[.int .i64 r.k, .int .i64 r.p, .int .i64 r.c] 100))
            have hbV := q.below.alloc q.size (.cells #[.int .i64 r.k, .int .i64 r.p, .int .i64 r.c] 100)
            have hsV := hbV.size
            clear HO
            go_wp2_with (at_builtin; refine wpList_push (w0 := q.val.alloc (.cells #[.int .i64 r.k, .int .i64 r.p, .int .i64 r.c] 100)) rfl _ _ 66 rfl 3 (.int .i64 0) 1 8 Try.underlying66 infoInt rfl (by decide) (by omega) W.heap.size _ _ _ rfl HOW #[.int .i64 r.k] 1 _ rfl (by first | rfl | exact Array.size_push _) rfl (by simp [Value.oneCell']) (by omega) hsV rfl rfl rfl rfl ?_; intro v' w3 HO3 hg3 hb3)
            obtain ⟨A3, c3, rfl⟩ := ownsRow_slice HO3.out
            go_wp2
            go_roundw
            case rel => exact ⟨k + 1, acc ++ [r.k], by omega, by go_num, by simp; omega, by rw [List.length_append]; unfold encIs at HO3 ⊢; rw [List.map_append]; exact HO3, hbV.grown hg3 hbV.size (fun g hg => (HOW.out.lt g hg).1), HE⟩
            case measure => simp [intOf]; omega
          · have hv : (r.p == st) = false := by simp [hz]
            have HE : Hid (acc ++ picks (fun r : Outing => decide (r.p = st)) Outing.k (x.o.drop (k + 1)) = picks (fun r : Outing => decide (r.p = st)) Outing.k x.o) := by
              have h1 := HR.out; rw [hn (decide_eq_false hz)] at h1; exact h1
            clear hy hn hz HR
            go_wp2
            go_roundw
            case rel => exact ⟨k + 1, acc, by omega, by go_num, by omega, Lib.hid (HO.out.alloc _), q.below.alloc q.size _, HE⟩
            case measure => simp [intOf]; omega
        · have HE : Hid (acc = picks (fun r : Outing => decide (r.p = st)) Outing.k x.o) := by
            have h1 := HR.out; rw [List.drop_eq_nil_of_le (by omega), show picks (fun r : Outing => decide (r.p = st)) Outing.k [] = [] from rfl, List.append_nil] at h1; exact h1
          obtain ⟨A3, c3, rfl⟩ := ownsRow_slice HO.out
          clear hro
          go_wp2
          go_ret2
          have e1 : listOf (true && true) (picks (fun r : Outing => decide (r.p = st)) Outing.k x.o) = acc := HE.out.symm
          rw [e1]
          exact ⟨_, _, rfl, (OwnS.of HO.out).lower b2.size, b2.trans (q.below.mono b2.size)⟩

end Go.Proofs.Ytdiojhjkcholiaa

/- What the laws over offices lean on: likeness of offices, a number in a list, the bound on the code. -/
namespace Go.Proofs.Ytdiojhjkcholiaa
open Go.RowKit

set_option maxHeartbeats 1000000 in
theorem vTrays_any (A B : Option Addr) (c d : Nat) (l : List Tray) (w : World) (hA : TraysR w w.heap.size A l) (hB : TraysR w w.heap.size B l) :
    Calls Try.prog 59 #[.slice A l.length c, .slice B l.length d] w fun e w' => e = .returned (.bool true) ∧ Below w.heap.size w w' := by
  have hlA := hA.big
  have hrA := hA.el
  have hrB := hB.el
  have hbn : ((l.length : Int) != (l.length : Int)) = false := by simp
  go_enter Try.func59, Try.ntmps59
  go_wp2
  go_loopw [5] (fun i wr => ∃ k : Nat, k ≤ l.length ∧ i = .int .i64 k ∧ (∃ q : Since w.heap.size w, wr = q.val)) (fun i _ => l.length - (intOf i).toNat)
  case atStart => exact ⟨0, Nat.zero_le _, rfl, ⟨Since.start _ _, rfl⟩⟩
  case round =>
    obtain ⟨k, hk, rfl, ⟨q, rfl⟩⟩ := hrel
    by_cases hlt : k < l.length
    · obtain ⟨b, off, rfl, hb, hcell⟩ := hrA (by omega)
      obtain ⟨b', off', rfl, hb', hcell'⟩ := hrB (by omega)
      obtain ⟨c0, c1⟩ := hcell k hlt
      obtain ⟨d0, d1⟩ := hcell' k hlt
      obtain ⟨x, hxe⟩ : ∃ x, x = l[k] := ⟨_, rfl⟩
      rw [← hxe] at c0 c1 d0 d1
      clear hxe hcell hcell' hrA hrB
      obtain ⟨v0, v1⟩ := x
      simp only at c0 c1 d0 d1
      go_wp2
      refine wp_region_since _ (by kernel_rfl) (by kernel_rfl) ?_
      repeat (any_goals (first | go_big_quiet_step ((fail)) | (refine wpQuiet_step (fun K hK => ?_); go_simp; split <;> (refine hK _ ?_; clear hK K))))
      all_goals (refine wpQuiet_nil ?_; rintro _ ⟨q1, rfl⟩)
      go_wp2
      go_roundw
      case rel => exact ⟨k + 1, by omega, by go_num, ⟨q1, rfl⟩⟩
      case measure => simp [intOf]; omega
    · go_wp2
      go_ret
      exact ⟨rfl, q.below⟩

set_option maxHeartbeats 1000000 in
theorem vOutings_any (A B : Option Addr) (c d : Nat) (l : List Outing) (w : World) (hA : OutingsR w w.heap.size A l) (hB : OutingsR w w.heap.size B l) :
    Calls Try.prog 60 #[.slice A l.length c, .slice B l.length d] w fun e w' => e = .returned (.bool true) ∧ Below w.heap.size w w' := by
  have hlA := hA.big
  have hrA := hA.el
  have hrB := hB.el
  have hbn : ((l.length : Int) != (l.length : Int)) = false := by simp
  go_enter Try.func60, Try.ntmps60
  go_wp2
  go_loopw [5] (fun i wr => ∃ k : Nat, k ≤ l.length ∧ i = .int .i64 k ∧ (∃ q : Since w.heap.size w, wr = q.val)) (fun i _ => l.length - (intOf i).toNat)
  case atStart => exact ⟨0, Nat.zero_le _, rfl, ⟨Since.start _ _, rfl⟩⟩
  case round =>
    obtain ⟨k, hk, rfl, ⟨q, rfl⟩⟩ := hrel
    by_cases hlt : k < l.length
    · obtain ⟨b, off, rfl, hb, hcell⟩ := hrA (by omega)
      obtain ⟨b', off', rfl, hb', hcell'⟩ := hrB (by omega)
      obtain ⟨c0, c1, c2⟩ := hcell k hlt
      obtain ⟨d0, d1, d2⟩ := hcell' k hlt
      obtain ⟨x, hxe⟩ : ∃ x, x = l[k] := ⟨_, rfl⟩
      rw [← hxe] at c0 c1 c2 d0 d1 d2
      clear hxe hcell hcell' hrA hrB
      obtain ⟨v0, v1, v2⟩ := x
      simp only at c0 c1 c2 d0 d1 d2
      go_wp2
      refine wp_region_since _ (by kernel_rfl) (by kernel_rfl) ?_
      repeat (any_goals (first | go_big_quiet_step ((fail)) | (refine wpQuiet_step (fun K hK => ?_); go_simp; split <;> (refine hK _ ?_; clear hK K))))
      all_goals (refine wpQuiet_nil ?_; rintro _ ⟨q1, rfl⟩)
      go_wp2
      go_roundw
      case rel => exact ⟨k + 1, by omega, by go_num, ⟨q1, rfl⟩⟩
      case measure => simp [intOf]; omega
    · go_wp2
      go_ret
      exact ⟨rfl, q.below⟩

set_option maxRecDepth 100000 in
set_option maxHeartbeats 2000000 in
theorem vOffice_any (x x' : Off) (w : World) (h : OffR w w.heap.size x) (h' : OffR w w.heap.size x') (hc : x.c = x'.c) :
    Calls Try.prog 28 #[x.val, x'.val] w fun e w' => e = .returned (.bool true) ∧ Below w.heap.size w w' := by
  obtain ⟨TA, t, tc, OA, o, oc, got, sold, missed⟩ := x
  obtain ⟨TA', t', tc', OA', o', oc', got', sold', missed'⟩ := x'
  simp only [Off.c, Oc.mk.injEq] at hc
  obtain ⟨rfl, rfl, rfl, rfl, rfl⟩ := hc
  have L1 := (Lies.new w 25 #[.slice TA t.length tc, .slice OA o.length oc, .int .i64 got, .int .i64 sold, .int .i64 missed]).alloc (.cells #[.slice TA' t.length tc', .slice OA' o.length oc', .int .i64 got, .int .i64 sold, .int .i64 missed] 25)
  have L2 := Lies.new1 w (.cells #[.slice TA t.length tc, .slice OA o.length oc, .int .i64 got, .int .i64 sold, .int .i64 missed] 25) 25 #[.slice TA' t.length tc', .slice OA' o.length oc', .int .i64 got, .int .i64 sold, .int .i64 missed]
  have b2 := ((Below.refl w.heap.size w).alloc (Nat.le_refl _) (.cells #[.slice TA t.length tc, .slice OA o.length oc, .int .i64 got, .int .i64 sold, .int .i64 missed] 25)).alloc (by simp) (.cells #[.slice TA' t.length tc', .slice OA' o.length oc', .int .i64 got, .int .i64 sold, .int .i64 missed] 25)
  go_enter Try.func28, Try.ntmps28
  go_wp2_with fail
  generalize ((w.alloc (.cells #[.slice TA t.length tc, .slice OA o.length oc, .int .i64 got, .int .i64 sold, .int .i64 missed] 25)).alloc (.cells #[.slice TA' t.length tc', .slice OA' o.length oc', .int .i64 got, .int .i64 sold, .int .i64 missed] 25)) = W at L1 L2 b2 ⊢
  have hR := h.up b2 (Nat.le_refl _)
  have hR' := h'.up b2 (Nat.le_refl _)
  clear h h'
  refine (vTrays_any TA TA' tc tc' t W hR.ts hR'.ts).mono ?_
  rintro e w1 ⟨rfl, hb1⟩
  have M1 := L1.below hb1 L1.lt
  have M2 := L2.below hb1 L2.lt
  have c1 := M1.cell 1
  have d1 := M2.cell 1
  simp only [List.getElem?_cons_zero, List.getElem?_cons_succ] at c1 d1
  go_wp2_with fail
  refine (vOutings_any OA OA' oc oc' o w1 (hR.then hb1).os (hR'.then hb1).os).mono ?_
  rintro e w2 ⟨rfl, hb2⟩
  have N1 := M1.below hb2 M1.lt
  have N2 := M2.below hb2 M2.lt
  clear c1 d1
  have c2 := N1.cell 2
  have c3 := N1.cell 3
  have c4 := N1.cell 4
  have d2 := N2.cell 2
  have d3 := N2.cell 3
  have d4 := N2.cell 4
  simp only [List.getElem?_cons_zero, List.getElem?_cons_succ] at c2 c3 c4 d2 d3 d4
  go_wp2
  go_ret
  exact ⟨by simp, bthen b2 (bthen hb1 hb2)⟩
theorem vOwn {y : Oc} {TA OA TA' OA' : Option Addr} {tc oc tc' oc' : Nat} {w : World} (h : OffR w w.heap.size (y.at TA tc OA oc)) (h' : OffR w w.heap.size (y.at TA' tc' OA' oc')) :
    Calls Try.prog 28 #[.agg #[.slice TA y.t.length tc, .slice OA y.o.length oc, .int .i64 y.got, .int .i64 y.sold, .int .i64 y.missed], .agg #[.slice TA' y.t.length tc', .slice OA' y.o.length oc', .int .i64 y.got, .int .i64 y.sold, .int .i64 y.missed]] w
      fun e w' => e = .returned (.bool true) ∧ Below w.heap.size w w' := vOffice_any (y.at TA tc OA oc) (y.at TA' tc' OA' oc') w h h' rfl
def hasFrom (x : Int) (l : List Int) : Bool := l.any (fun y => decide (y = x))
set_option maxHeartbeats 1000000 in
theorem vHas_any (A : Option Addr) (c : Nat) (l : List Int) (x : Int) (w : World) (hA : IntsR w w.heap.size A l) :
    Calls Try.prog 34 #[.slice A l.length c, .int .i64 x] w fun e w' => e = .returned (.bool (hasFrom x l)) ∧ Below w.heap.size w w' := by
  have hlA := hA.big
  have hrA := hA.ints
  go_enter Try.func34, Try.ntmps34
  go_wp2
  go_loopw [5] (fun i wr => ∃ k : Nat, k ≤ l.length ∧ i = .int .i64 k ∧ w = wr ∧ Hid (hasFrom x (l.drop k) = hasFrom x l)) (fun i _ => l.length - (intOf i).toNat)
  case atStart => exact ⟨0, Nat.zero_le _, rfl, rfl, rfl⟩
  case round =>
    obtain ⟨k, hk, rfl, rfl, HR⟩ := hrel
    by_cases hlt : k < l.length
    · obtain ⟨b, off, rfl, hb, hcell⟩ := hrA (by omega)
      have c0 := hcell k hlt (Since.start _ _)
      have HS : Hid (hasFrom x (l.drop k) = (decide (l[k] = x) || hasFrom x (l.drop (k + 1)))) := by
        show hasFrom x (l.drop k) = _
        rw [List.drop_eq_getElem_cons hlt]; rfl
      generalize l[k] = y at c0 HS
      simp only [Since.start] at c0
      clear hcell hrA
      by_cases e : y = x
      · subst e
        go_wp2
        go_ret
        exact ⟨by rw [← HR.out, HS.out]; simp, Below.refl _ _⟩
      · have hne : (y == x) = false := by simpa using e
        go_wp2
        go_roundw
        case rel => exact ⟨k + 1, by omega, by go_num, trivial, by have h1 := HR.out; rw [HS.out, decide_eq_false e, Bool.false_or] at h1; exact h1⟩
        case measure => simp [intOf]; omega
    · go_wp2
      go_ret
      exact ⟨by rw [← HR.out, List.drop_eq_nil_of_le (by omega)]; rfl, Below.refl _ _⟩
end Go.Proofs.Ytdiojhjkcholiaa

/- What a step does to an office, in plain words: what came, who has what (no program in sight). -/
namespace Go.Proofs.Ytdiojhjkcholiaa
open Go.RowKit

theorem atO_gone {k p : Int} : ∀ (l : List Outing) (o : Outing), o ∈ atO k p 0 l → isAt k p o = false
  | [], o, h => by simp [atO] at h
  | q :: l, o, h => by
    rw [atO, if_neg (by simp)] at h
    split at h
    · exact atO_gone l o h
    · rcases List.mem_cons.1 h with rfl | h
      · rename_i hq; simpa using hq
      · exact atO_gone l o h
theorem has_picks {st pe : Int} : ∀ l : List Outing, hasFrom st (picks (fun r : Outing => decide (r.p = pe)) Outing.k l) = l.any (fun o => isAt st pe o)
  | [] => rfl
  | o :: l => by
    have ih := has_picks (st := st) (pe := pe) l
    unfold hasFrom at ih ⊢
    rw [picks]
    by_cases hp : o.p = pe
    · rw [if_pos (by simpa using hp), List.any_cons, List.any_cons, ih]
      congr 1
      rw [Bool.eq_iff_iff, isAt_iff, decide_eq_true_eq]
      exact ⟨fun h => ⟨h, hp⟩, fun h => h.1⟩
    · rw [if_neg (by simpa using hp), List.any_cons, ih]
      have : isAt st pe o = false := by rw [Bool.eq_false_iff]; intro e; rw [isAt_iff] at e; exact hp e.2
      rw [this, Bool.false_or]
theorem fin_eq {r r' : Oc} (h : Oc.fin r = some r') : r' = r := by
  unfold Oc.fin at h
  split at h
  · injection h with h; exact h.symm
  · cases h
theorem stepD_got {y r : Oc} {s : Stp} (h : stepD y s = some r) (hk : s.kind ≠ 1) : r.got = y.got := by
  unfold stepD at h
  rw [if_neg hk] at h
  split at h
  · cases h
  split at h
  · rw [fin_eq h]
  split at h
  · cases h
  split at h
  · rw [fin_eq h]
  split at h
  · split at h <;> rw [fin_eq h]
  split at h <;> rw [fin_eq h]
/-- A person who was shown stamps of a kind has them. -/
theorem plain_show {x : Off} {r : Oc} {s : Stp} (G : Good x) (hs : s.ok = true) (hk : s.kind = 2) (h : stepD x.c s = some r) :
    inR s.person 1 999 = true ∧ hasFrom s.stamp (picks (fun o : Outing => decide (o.p = s.person)) Outing.k r.o) = true := by
  unfold Stp.ok at hs
  rw [Bool.and_eq_true, if_neg (by omega), if_pos (.inl hk), Bool.and_eq_true] at hs
  refine ⟨hs.2.1, ?_⟩
  have hv := inR_iff.1 hs.2.2
  unfold stepD at h
  rw [if_neg (by omega)] at h
  split at h
  · cases h
  try rw [if_pos hk] at h
  rw [fin_eq h, has_picks]
  show (chgO s.stamp s.person s.value x.o).any _ = true
  obtain ⟨n1, n2⟩ := G.at_bd s.stamp s.person
  rw [chgO_atO (k := s.stamp) (p := s.person) (by_ := s.value) x.o G.asc (fun _ => by omega), List.any_eq_true]
  exact ⟨_, atO_has (by omega) _, by rw [isAt_iff]; exact ⟨rfl, rfl⟩⟩
/-- A person whose stamps of a kind are missed or moved has none. -/
theorem plain_gone {x : Off} {r : Oc} {s : Stp} (G : Good x) (hs : s.ok = true) (hk : s.kind = 5 ∨ s.kind = 6) (h : stepD x.c s = some r) :
    hasFrom s.stamp (picks (fun o : Outing => decide (o.p = s.person)) Outing.k r.o) = false := by
  unfold Stp.ok at hs
  rw [Bool.and_eq_true, if_neg (by omega), if_neg (by omega), if_neg (by omega)] at hs
  unfold stepD at h
  rw [if_neg (by omega)] at h
  split at h
  · cases h
  rw [if_neg (by omega)] at h
  split at h
  · cases h
  rename_i hz
  rw [if_neg (by omega), if_neg (by omega)] at h
  have hA := G.asc
  have key : ∀ l : List Outing, (∀ o ∈ l, isAt s.stamp s.person o = false) → l.any (fun o => isAt s.stamp s.person o) = false := fun l hl => by
    rw [List.any_eq_false]
    intro o ho
    rw [hl o ho]; exact Bool.false_ne_true
  rw [has_picks]
  have hp : 0 < s.person := by
    rcases hk with hk | hk
    · rw [if_pos hk, Bool.and_eq_true] at hs; have := inR_iff.1 hs.2.1; omega
    · rw [if_neg (by omega), if_pos hk, Bool.and_eq_true, Bool.and_eq_true] at hs; have := inR_iff.1 hs.2.1.1; omega
  have hn : outAt s.stamp s.person x.o ≠ 0 := fun e => hz ⟨e, hp⟩
  have h1 : chgO s.stamp s.person (-outAt s.stamp s.person x.o) x.o = atO s.stamp s.person 0 x.o := by
    have := chgO_atO (k := s.stamp) (p := s.person) (by_ := -outAt s.stamp s.person x.o) x.o hA (fun e => absurd e hn)
    rw [this, show outAt s.stamp s.person x.o + -outAt s.stamp s.person x.o = 0 by omega]
  rcases hk with hk | hk
  · rw [if_pos hk] at h
    rw [fin_eq h]
    show (chgO s.stamp s.person (-outAt s.stamp s.person x.o) x.o).any _ = false
    rw [h1]
    exact key _ (atO_gone x.o)
  · rw [if_neg (by omega)] at h
    rw [if_neg (by omega), if_pos hk, Bool.and_eq_true, Bool.and_eq_true] at hs
    have hne : s.value ≠ s.person := by simpa using hs.2.2
    rw [fin_eq h]
    show (chgO s.stamp s.value (outAt s.stamp s.person x.o) (chgO s.stamp s.person (-outAt s.stamp s.person x.o) x.o)).any _ = false
    rw [h1]
    have hA' : AscO (atO s.stamp s.person 0 x.o) := List.Pairwise.sublist (atO_zero_sub _) hA
    rw [chgO_atO (k := s.stamp) (p := s.value) (by_ := outAt s.stamp s.person x.o) _ hA' (fun _ => hn)]
    refine key _ fun o ho => ?_
    rcases atO_mem _ _ o ho with h2 | rfl
    · exact atO_gone x.o o h2
    · rw [Bool.eq_false_iff]; intro e; rw [isAt_iff] at e; exact hne e.2
theorem good_bds {y : Oc} (h : y.good = true) : 0 ≤ inSum y.t ∧ 0 ≤ outSum every y.o ∧ 0 ≤ y.sold ∧ 0 ≤ y.missed ∧ y.got ≤ 99999 := by
  have G : Good (y.at none 0 none 0) := good_iff.1 h
  exact ⟨(inFrom_bd y.t 0 G.tall).1, (outFrom_bd every y.t y.o 0 G.oall).1, G.s.1, G.m.1, G.g.2⟩
theorem good_sum {y : Oc} (h : y.good = true) : y.got = inSum y.t + outSum every y.o + y.sold + y.missed := by
  have G : Good (y.at none 0 none 0) := good_iff.1 h
  exact G.sum
end Go.Proofs.Ytdiojhjkcholiaa

/- RunOffice, in the program. (Printed by gen_run.py) -/
namespace Go.Proofs.Ytdiojhjkcholiaa
open Go.RowKit

set_option maxRecDepth 100000 in
set_option maxHeartbeats 4000000 in
theorem implRun_any (x : Off) (A : Option Addr) (c : Nat) (l : List Stp) (w : World) (h : OffR w w.heap.size x) (hs : StpsR w w.heap.size A l) :
    Calls Try.prog 23 #[x.val, .slice A l.length c] w (GivesN w (runR x.c l)) := by
  have hl := hs.big
  have L1 := (Lies.new w 25 #[.slice x.TA x.t.length x.tc, .slice x.OA x.o.length x.oc, .int .i64 x.got, .int .i64 x.sold, .int .i64 x.missed]).alloc (.cells #[.slice none 0 0, .slice none 0 0, .int .i64 0, .int .i64 0, .int .i64 0] 25)
  have L2 := Lies.new1 w (.cells #[.slice x.TA x.t.length x.tc, .slice x.OA x.o.length x.oc, .int .i64 x.got, .int .i64 x.sold, .int .i64 x.missed] 25) 25 #[.slice none 0 0, .slice none 0 0, .int .i64 0, .int .i64 0, .int .i64 0]
  have b2 := ((Below.refl w.heap.size w).alloc (Nat.le_refl _) (.cells #[.slice x.TA x.t.length x.tc, .slice x.OA x.o.length x.oc, .int .i64 x.got, .int .i64 x.sold, .int .i64 x.missed] 25)).alloc (by simp) (.cells #[.slice none 0 0, .slice none 0 0, .int .i64 0, .int .i64 0, .int .i64 0] 25)
  have hsz : w.heap.size + 1 + 1 = ((w.alloc (.cells #[.slice x.TA x.t.length x.tc, .slice x.OA x.o.length x.oc, .int .i64 x.got, .int .i64 x.sold, .int .i64 x.missed] 25)).alloc (.cells #[.slice none 0 0, .slice none 0 0, .int .i64 0, .int .i64 0, .int .i64 0] 25)).heap.size := by simp
  have hR0 := h.up b2 (Nat.le_refl _)
  have cV : ∀ W, Lies W w.heap.size 25 [.slice x.TA x.t.length x.tc, .slice x.OA x.o.length x.oc, .int .i64 x.got, .int .i64 x.sold, .int .i64 x.missed] → OffR W W.heap.size x → Calls Try.prog 45 #[.pointer (some ⟨w.heap.size, 0, none⟩)] W fun e w' => e = .returned (.bool (goodOff x)) ∧ Below W.heap.size W w' := fun W hL hR => isOfficeValid_any x w.heap.size W (OffAt.of (x := x) hL hR)
  cases hg : goodOff x
  · have HN : Hid (runR x.c l = (Oc.zero, 0, false)) := runR_bad hg
    rw [hg] at cV
    go_enter Try.func23, Try.ntmps23
    go_wp2_with fail
    generalize ((w.alloc (.cells #[.slice x.TA x.t.length x.tc, .slice x.OA x.o.length x.oc, .int .i64 x.got, .int .i64 x.sold, .int .i64 x.missed] 25)).alloc (.cells #[.slice none 0 0, .slice none 0 0, .int .i64 0, .int .i64 0, .int .i64 0] 25)) = W at L1 L2 b2 hR0 hsz ⊢
    refine (cV W L1 hR0).mono ?_
    rintro e W1 ⟨rfl, hb1⟩
    have b3 := b2.trans (hb1.mono b2.size)
    have L3 := L2.below hb1 L2.lt
    clear L1 L2 hR0 cV hb1 b2
    have z0 := L3.cell 0
    have z1 := L3.cell 1
    have z2 := L3.cell 2
    have z3 := L3.cell 3
    have z4 := L3.cell 4
    simp only [List.getElem?_cons_zero, List.getElem?_cons_succ] at z0 z1 z2 z3 z4
    have f0 := L3.frozen 0
    have f1 := L3.frozen 1
    have f2 := L3.frozen 2
    have f3 := L3.frozen 3
    have f4 := L3.frozen 4
    have bz := b3.trans (stOff_below (v0 := .slice none 0 0) (v1 := .slice none 0 0) (v2 := .int .i64 0) (v3 := .int .i64 0) (v4 := .int .i64 0) L3 (show w.heap.size ≤ w.heap.size + 1 by omega))
    go_wp2
    refine bodyPost_ret (v := .tuple #[.agg #[.slice none 0 0, .slice none 0 0, .int .i64 0, .int .i64 0, .int .i64 0], .int .i64 0, .bool false]) (by simp [results, Try.results23, go_sem, *]) rfl ?_
    rw [HN.out]
    exact ⟨_, rfl, ⟨none, 0, none, 0, rfl, World.ownsRow_nil _ _ _ _, World.ownsRow_nil _ _ _ _⟩, bz⟩
  · have G := good_iff.1 hg
    have htl := G.tl
    have hol := G.ol
    have hyg : x.c.good = true := hg
    rw [hg] at cV
    by_cases hlen : l.length ≤ 40
    · have HN : Hid (runR x.c l = ((runGo x.c 0 l).1, (runGo x.c 0 l).2, true)) := runR_good hg hlen
      have hrd := StpsR.el hs
      go_enter Try.func23, Try.ntmps23
      go_wp2_with fail
      generalize ((w.alloc (.cells #[.slice x.TA x.t.length x.tc, .slice x.OA x.o.length x.oc, .int .i64 x.got, .int .i64 x.sold, .int .i64 x.missed] 25)).alloc (.cells #[.slice none 0 0, .slice none 0 0, .int .i64 0, .int .i64 0, .int .i64 0] 25)) = W at L1 L2 b2 hR0 hsz ⊢
      refine (cV W L1 hR0).mono ?_
      rintro e W1 ⟨rfl, hb1⟩
      have b3 := b2.trans (hb1.mono b2.size)
      have L3 := L2.below hb1 L2.lt
      have L1a := L1.below hb1 L1.lt
      have hR1 := hR0.then hb1
      clear cV L1 L2 hR0 b2
      go_wp2_with fail
      refine (copyOffice_any x w.heap.size W1 (OffAt.of (x := x) L1a hR1) (by omega) (by omega)).mono ?_
      rintro e W2 ⟨TA, tc, OA, oc, rfl, hT, hO, hb2⟩
      have hal := (Below.refl W2.heap.size W2).alloc (Nat.le_refl _) (.cells #[.slice TA x.t.length tc, .slice OA x.o.length oc, .int .i64 x.got, .int .i64 x.sold, .int .i64 x.missed] 25)
      have P := Lies.new W2 25 #[.slice TA x.t.length tc, .slice OA x.o.length oc, .int .i64 x.got, .int .i64 x.sold, .int .i64 x.missed]
      have hT3 := ownsRow_lower (ownsRow_below hT hal) b3.size
      have hO3 := ownsRow_lower (ownsRow_below hO hal) b3.size
      have b4 := b3.trans ((bthen hb2 hal).mono b3.size)
      have L4 := (L3.below hb2 L3.lt).below hal (Nat.lt_of_lt_of_le L3.lt hb2.size)
      have hgg : w.heap.size + 1 < W2.heap.size := Nat.lt_of_lt_of_le L3.lt hb2.size
      obtain ⟨W3, hW3⟩ : ∃ W3, W2.alloc (.cells #[.slice TA x.t.length tc, .slice OA x.o.length oc, .int .i64 x.got, .int .i64 x.sold, .int .i64 x.missed] 25) = W3 := ⟨_, rfl⟩
      rw [hW3] at P hT3 hO3 b4 L4
      generalize hg2 : W2.heap.size = g2 at P hgg
      have HI0 : Hid (OffIn W3 w.heap.size g2 x.c) := ⟨TA, tc, OA, oc, P, by omega, hT3, hO3⟩
      have HL4 := Lib.hid L4
      clear hal hT hO hb2 L3 b3 L1a hR1 hT3 hO3 P L4 hb1
      simp only [Off.c, Oc.at, Off.val]
      go_wp2_with (rw [hW3]; clear hW3; rw [hg2])

      go_loopw [8, 10, 11, 12, 24] (fun made _ _ _ i wr => ∃ (k : Nat) (y : Oc) (n : Int), k ≤ l.length ∧ i = .int .i64 k ∧ made = .int .i64 n ∧ (0 ≤ n ∧ n ≤ k) ∧ Hid (y.good = true) ∧ Hid (OffIn wr w.heap.size g2 y) ∧ Hid (Lies wr (w.heap.size + 1) 25 [.slice none 0 0, .slice none 0 0, .int .i64 0, .int .i64 0, .int .i64 0]) ∧ Below w.heap.size w wr ∧ Hid (runGo y n (l.drop k) = runGo x.c 0 l)) (fun _ _ _ _ i _ => l.length - (intOf i).toNat)
      case atStart => exact ⟨0, x.c, 0, Nat.zero_le _, rfl, rfl, by omega, hyg, HI0, HL4, b4, rfl⟩
      case round =>
        clear b4 HI0 HL4
        obtain ⟨k, y, n, hk, rfl, rfl, ⟨n1, n2⟩, HG, HI, HL, hbr, HR⟩ := hrel
        by_cases hlt : k < l.length
        · obtain ⟨b, off, rfl, hb, hcell⟩ := hrd (by omega)
          obtain ⟨c0, c1, c2, c3⟩ := hcell k hlt
          have hN := runGo_none (y := y) (n := n) hlt
          have hS := fun r => runGo_some (y := y) (n := n) (r := r) hlt
          obtain ⟨s, hse⟩ : ∃ s, s = l[k] := ⟨_, rfl⟩
          rw [← hse] at c0 c1 c2 c3 hN hS
          clear hse hcell hrd
          obtain ⟨kd, st, pe, va⟩ := s
          simp only at c0 c1 c2 c3
          obtain ⟨q, rfl⟩ : ∃ q : Since w.heap.size w, wr = q.val := ⟨⟨wr, hbr⟩, rfl⟩
          have d0 := c0 q
          have d1 := c1 q
          have d2 := c2 q
          have d3 := c3 q
          have hals := (Below.refl q.val.heap.size q.val).alloc (Nat.le_refl _) (.cells #[.int .i64 kd, .int .i64 st, .int .i64 pe, .int .i64 va] 45)
          have LS := Lies.new q.val 45 #[.int .i64 kd, .int .i64 st, .int .i64 pe, .int .i64 va]
          have cK := fun W => isOfficeStep_any ⟨kd, st, pe, va⟩ W
          clear c0 c1 c2 c3
          cases hok : Stp.ok ⟨kd, st, pe, va⟩
          · rw [hok] at cK
            have HE : Hid (runGo y n (l.drop (k + 1)) = runGo x.c 0 l) := by rw [← hN (by unfold nextD; rw [hok]; rfl)]; exact HR.out
            clear hN hS hok
            go_wp2_with fail
            generalize q.val.alloc (.cells #[.int .i64 kd, .int .i64 st, .int .i64 pe, .int .i64 va] 45) = W4 at hals LS ⊢
            refine (cK W4).mono ?_
            rintro e W5 ⟨rfl, hb5⟩
            have h45 := bthen hals hb5
            clear d0 d1 d2 d3
            go_wp2
            go_roundw
            case rel => exact ⟨k + 1, y, n, by omega, by go_num, rfl, by omega, HG, Lib.hid (HI.out.then h45), Lib.hid (HL.out.below h45 HL.out.lt), q.below.trans (h45.mono q.size), HE⟩
            case measure => simp [intOf]; omega
          · rw [hok] at cK
            obtain ⟨TA7, tc7, OA7, oc7, P7⟩ := HI.out
            have cS := fun W hA => stepOffice_any (y.at TA7 tc7 OA7 oc7) g2 ⟨kd, st, pe, va⟩ W hA (Oc.good_off HG.out TA7 tc7 OA7 oc7) hok
            simp only [show (y.at TA7 tc7 OA7 oc7).c = y from rfl] at cS
            go_wp2_with fail
            generalize q.val.alloc (.cells #[.int .i64 kd, .int .i64 st, .int .i64 pe, .int .i64 va] 45) = W4 at hals LS ⊢
            generalize q.val.heap.size = g4 at LS ⊢
            refine (cK W4).mono ?_
            rintro e W5 ⟨rfl, hb5⟩
            have h45 := bthen hals hb5
            have P75 := P7.then h45
            have L5 := HL.out.below h45 HL.out.lt
            have LS5 := LS.below hb5 LS.lt
            have q5 := q.below.trans (h45.mono q.size)
            clear d0 d1 d2 d3 LS hb5 hals P7 HI HL
            have s0 := LS5.cell 0
            have s1 := LS5.cell 1
            have s2 := LS5.cell 2
            have s3 := LS5.cell 3
            simp only [List.getElem?_cons_zero, List.getElem?_cons_succ] at s0 s1 s2 s3
            cases hd : stepD y ⟨kd, st, pe, va⟩ with
            | none =>
              rw [hd] at cS
              have HE : Hid (runGo y n (l.drop (k + 1)) = runGo x.c 0 l) := by rw [← hN (by unfold nextD; rw [hok, if_pos rfl]; exact hd)]; exact HR.out
              clear hN hS hok hd HR
              go_wp2_with fail
              refine (cS W5 P75.at_).mono ?_
              rintro e W6 ⟨TA, tc, OA, oc, rfl, hT, hO, hb6⟩
              simp only [resOf, Option.getD_none, Oc.zero, Option.isSome_none, Oc.at, Off.val, List.length_nil]
              clear hT hO s0 s1 s2 s3 cS cK
              have hal6 := (Below.refl W6.heap.size W6).alloc (Nat.le_refl _) (.cells #[.slice TA 0 tc, .slice OA 0 oc, .int .i64 0, .int .i64 0, .int .i64 0] 25)
              have h67 := bthen hb6 hal6
              have HI7 := Lib.hid (show OffIn _ _ _ _ from ⟨TA7, tc7, OA7, oc7, P75.then h67⟩)
              have HL7 := Lib.hid (L5.below h67 L5.lt)
              have q7 := q5.trans (h67.mono q5.size)
              clear P75 L5 q5 hal6 hb6 h67
              go_wp2
              go_roundw
              case rel => exact ⟨k + 1, y, n, by omega, by go_num, rfl, by omega, HG, HI7, HL7, q7, HE⟩
              case measure => simp [intOf]; omega
            | some r =>
              rw [hd] at cS
              have HE : Hid (runGo r (n + 1) (l.drop (k + 1)) = runGo x.c 0 l) := by rw [← hS r (by unfold nextD; rw [hok, if_pos rfl]; exact hd)]; exact HR.out
              have HG2 : Hid (r.good = true) := stepD_good hd
              clear hN hS hok hd HR HG
              have hw1 : IntKind.i64.wrap (n + 1) = n + 1 := IntWalk.i64_in _ (by omega)
              go_wp2_with fail
              refine (cS W5 P75.at_).mono ?_
              rintro e W6 ⟨TA, tc, OA, oc, rfl, hT, hO, hb6⟩
              simp only [resOf, Option.getD_some, Option.isSome_some] at hT hO ⊢
              simp only [Oc.at, Off.val]
              clear s0 s1 s2 s3 cS cK
              have hal6 := (Below.refl W6.heap.size W6).alloc (Nat.le_refl _) (.cells #[.slice TA r.t.length tc, .slice OA r.o.length oc, .int .i64 r.got, .int .i64 r.sold, .int .i64 r.missed] 25)
              have P8 := Lies.new W6 25 #[.slice TA r.t.length tc, .slice OA r.o.length oc, .int .i64 r.got, .int .i64 r.sold, .int .i64 r.missed]
              have h67 := bthen hb6 hal6
              have hT := ownsRow_lower (ownsRow_below hT hal6) q5.size
              have hO := ownsRow_lower (ownsRow_below hO hal6) q5.size
              have K7 := P75.lies.below h67 P75.lies.lt
              have L7 := L5.below h67 L5.lt
              have q7 := q5.trans (h67.mono q5.size)
              have h25 := P75.lies.lt
              have h56 := hb6.size
              clear P75 L5 q5
              obtain ⟨W7, hW7⟩ : ∃ W7, W6.alloc (.cells #[.slice TA r.t.length tc, .slice OA r.o.length oc, .int .i64 r.got, .int .i64 r.sold, .int .i64 r.missed] 25) = W7 := ⟨_, rfl⟩
              rw [hW7] at P8 hT hO K7 L7 q7
              generalize hg6 : W6.heap.size = g6 at P8 h56
              clear hal6 hb6 h67
              have p0 := P8.cell 0
              have p1 := P8.cell 1
              have p2 := P8.cell 2
              have p3 := P8.cell 3
              have p4 := P8.cell 4
              simp only [List.getElem?_cons_zero, List.getElem?_cons_succ] at p0 p1 p2 p3 p4
              have k0 := K7.cell 0
              have k1 := K7.cell 1
              have k2 := K7.cell 2
              have k3 := K7.cell 3
              have k4 := K7.cell 4
              simp only [List.getElem?_cons_zero, List.getElem?_cons_succ] at k0 k1 k2 k3 k4
              have f0 := K7.frozen 0
              have f1 := K7.frozen 1
              have f2 := K7.frozen 2
              have f3 := K7.frozen 3
              have f4 := K7.frozen 4
              have HI8 := Lib.hid (OwnV.store hT hO K7 (show w.heap.size ≤ g2 by omega))
              have HL8 := Lib.hid (stOff_other (v0 := .slice TA r.t.length tc) (v1 := .slice OA r.o.length oc) (v2 := .int .i64 r.got) (v3 := .int .i64 r.sold) (v4 := .int .i64 r.missed) (g := g2) L7 (by omega))
              have HB8 := Lib.hid (q7.trans (stOff_below (v0 := .slice TA r.t.length tc) (v1 := .slice OA r.o.length oc) (v2 := .int .i64 r.got) (v3 := .int .i64 r.sold) (v4 := .int .i64 r.missed) K7 (show w.heap.size ≤ g2 by omega)))
              clear hT hO K7 L7 q7 P8
              go_wp2_with (rw [hW7]; clear hW7; rw [hg6])
              go_roundw
              case rel => exact ⟨k + 1, r, n + 1, by omega, by go_num, rfl, by omega, HG2, HI8, HL8, HB8.out, HE⟩
              case measure => simp [intOf]; omega
        · have HE : Hid (runGo x.c 0 l = (y, n)) := by rw [← HR.out, List.drop_eq_nil_of_le (by omega)]; rfl
          clear hrd
          obtain ⟨TA, tc, OA, oc, P⟩ := HI.out
          have K := P.lies
          have L4 := HL.out
          have k0 := K.cell 0
          have k1 := K.cell 1
          have k2 := K.cell 2
          have k3 := K.cell 3
          have k4 := K.cell 4
          simp only [List.getElem?_cons_zero, List.getElem?_cons_succ] at k0 k1 k2 k3 k4
          have z0 := L4.cell 0
          have z1 := L4.cell 1
          have z2 := L4.cell 2
          have z3 := L4.cell 3
          have z4 := L4.cell 4
          simp only [List.getElem?_cons_zero, List.getElem?_cons_succ] at z0 z1 z2 z3 z4
          have f0 := L4.frozen 0
          have f1 := L4.frozen 1
          have f2 := L4.frozen 2
          have f3 := L4.frozen 3
          have f4 := L4.frozen 4
          have HT := Lib.hid (stOff_row (v0 := .slice TA y.t.length tc) (v1 := .slice OA y.o.length oc) (v2 := .int .i64 y.got) (v3 := .int .i64 y.sold) (v4 := .int .i64 y.missed) L4 P.t ne_owt)
          have HO := Lib.hid (stOff_row (v0 := .slice TA y.t.length tc) (v1 := .slice OA y.o.length oc) (v2 := .int .i64 y.got) (v3 := .int .i64 y.sold) (v4 := .int .i64 y.missed) L4 P.o ne_owo)
          have HB := Lib.hid (hbr.trans (stOff_below (v0 := .slice TA y.t.length tc) (v1 := .slice OA y.o.length oc) (v2 := .int .i64 y.got) (v3 := .int .i64 y.sold) (v4 := .int .i64 y.missed) L4 (show w.heap.size ≤ w.heap.size + 1 by omega)))
          clear P K L4 HI HL hbr
          go_wp2
          refine bodyPost_ret (v := .tuple #[.agg #[.slice TA y.t.length tc, .slice OA y.o.length oc, .int .i64 y.got, .int .i64 y.sold, .int .i64 y.missed], .int .i64 n, .bool true]) (by simp [results, Try.results23, go_sem, *]) rfl ?_
          rw [HN.out, HE.out]
          exact ⟨_, rfl, ⟨TA, tc, OA, oc, rfl, HT.out, HO.out⟩, HB.out⟩
    · have HN : Hid (runR x.c l = (Oc.zero, 0, false)) := runR_long hlen
      go_enter Try.func23, Try.ntmps23
      go_wp2_with fail
      generalize ((w.alloc (.cells #[.slice x.TA x.t.length x.tc, .slice x.OA x.o.length x.oc, .int .i64 x.got, .int .i64 x.sold, .int .i64 x.missed] 25)).alloc (.cells #[.slice none 0 0, .slice none 0 0, .int .i64 0, .int .i64 0, .int .i64 0] 25)) = W at L1 L2 b2 hR0 hsz ⊢
      refine (cV W L1 hR0).mono ?_
      rintro e W1 ⟨rfl, hb1⟩
      have b3 := b2.trans (hb1.mono b2.size)
      have L3 := L2.below hb1 L2.lt
      clear L1 L2 hR0 cV hb1 b2
      have z0 := L3.cell 0
      have z1 := L3.cell 1
      have z2 := L3.cell 2
      have z3 := L3.cell 3
      have z4 := L3.cell 4
      simp only [List.getElem?_cons_zero, List.getElem?_cons_succ] at z0 z1 z2 z3 z4
      have f0 := L3.frozen 0
      have f1 := L3.frozen 1
      have f2 := L3.frozen 2
      have f3 := L3.frozen 3
      have f4 := L3.frozen 4
      have bz := b3.trans (stOff_below (v0 := .slice none 0 0) (v1 := .slice none 0 0) (v2 := .int .i64 0) (v3 := .int .i64 0) (v4 := .int .i64 0) L3 (show w.heap.size ≤ w.heap.size + 1 by omega))
      go_wp2
      refine bodyPost_ret (v := .tuple #[.agg #[.slice none 0 0, .slice none 0 0, .int .i64 0, .int .i64 0, .int .i64 0], .int .i64 0, .bool false]) (by simp [results, Try.results23, go_sem, *]) rfl ?_
      rw [HN.out]
      exact ⟨_, rfl, ⟨none, 0, none, 0, rfl, World.ownsRow_nil _ _ _ _, World.ownsRow_nil _ _ _ _⟩, bz⟩
end Go.Proofs.Ytdiojhjkcholiaa

/- RunOffice, in the reference. (Printed by gen_run.py) -/
namespace Go.Proofs.Ytdiojhjkcholiaa
open Go.RowKit

set_option maxRecDepth 100000 in
set_option maxHeartbeats 4000000 in
theorem specRun_any (x : Off) (A : Option Addr) (c : Nat) (l : List Stp) (w : World) (h : OffR w w.heap.size x) (hs : StpsR w w.heap.size A l) (hcap : x.t.length ≤ x.tc) :
    Calls Try.prog 21 #[x.val, .slice A l.length c] w (GivesN w (runR x.c l)) := by
  have hl := hs.big
  have L1 := (Lies.new w 25 #[.slice x.TA x.t.length x.tc, .slice x.OA x.o.length x.oc, .int .i64 x.got, .int .i64 x.sold, .int .i64 x.missed]).alloc (.cells #[.slice none 0 0, .slice none 0 0, .int .i64 0, .int .i64 0, .int .i64 0] 25)
  have L2 := Lies.new1 w (.cells #[.slice x.TA x.t.length x.tc, .slice x.OA x.o.length x.oc, .int .i64 x.got, .int .i64 x.sold, .int .i64 x.missed] 25) 25 #[.slice none 0 0, .slice none 0 0, .int .i64 0, .int .i64 0, .int .i64 0]
  have b2 := ((Below.refl w.heap.size w).alloc (Nat.le_refl _) (.cells #[.slice x.TA x.t.length x.tc, .slice x.OA x.o.length x.oc, .int .i64 x.got, .int .i64 x.sold, .int .i64 x.missed] 25)).alloc (by simp) (.cells #[.slice none 0 0, .slice none 0 0, .int .i64 0, .int .i64 0, .int .i64 0] 25)
  have hsz : w.heap.size + 1 + 1 = ((w.alloc (.cells #[.slice x.TA x.t.length x.tc, .slice x.OA x.o.length x.oc, .int .i64 x.got, .int .i64 x.sold, .int .i64 x.missed] 25)).alloc (.cells #[.slice none 0 0, .slice none 0 0, .int .i64 0, .int .i64 0, .int .i64 0] 25)).heap.size := by simp
  have hR0 := h.up b2 (Nat.le_refl _)
  have cV := fun W hR => l32Good_any x W hR
  cases hg : goodOff x
  · have HN : Hid (runR x.c l = (Oc.zero, 0, false)) := runR_bad hg
    rw [hg] at cV
    go_enter Try.func21, Try.ntmps21
    go_wp2_with fail
    generalize ((w.alloc (.cells #[.slice x.TA x.t.length x.tc, .slice x.OA x.o.length x.oc, .int .i64 x.got, .int .i64 x.sold, .int .i64 x.missed] 25)).alloc (.cells #[.slice none 0 0, .slice none 0 0, .int .i64 0, .int .i64 0, .int .i64 0] 25)) = W at L1 L2 b2 hR0 hsz ⊢
    refine (cV W hR0).mono ?_
    rintro e W1 ⟨rfl, hb1⟩
    have b3 := b2.trans (hb1.mono b2.size)
    have L3 := L2.below hb1 L2.lt
    clear L1 L2 hR0 cV hb1 b2
    have z0 := L3.cell 0
    have z1 := L3.cell 1
    have z2 := L3.cell 2
    have z3 := L3.cell 3
    have z4 := L3.cell 4
    simp only [List.getElem?_cons_zero, List.getElem?_cons_succ] at z0 z1 z2 z3 z4
    have f0 := L3.frozen 0
    have f1 := L3.frozen 1
    have f2 := L3.frozen 2
    have f3 := L3.frozen 3
    have f4 := L3.frozen 4
    have bz := b3.trans (stOff_below (v0 := .slice none 0 0) (v1 := .slice none 0 0) (v2 := .int .i64 0) (v3 := .int .i64 0) (v4 := .int .i64 0) L3 (show w.heap.size ≤ w.heap.size + 1 by omega))
    go_wp2
    refine bodyPost_ret (v := .tuple #[.agg #[.slice none 0 0, .slice none 0 0, .int .i64 0, .int .i64 0, .int .i64 0], .int .i64 0, .bool false]) (by simp [results, Try.results21, go_sem, *]) rfl ?_
    rw [HN.out]
    exact ⟨_, rfl, ⟨none, 0, none, 0, rfl, World.ownsRow_nil _ _ _ _, World.ownsRow_nil _ _ _ _⟩, bz⟩
  · have G := good_iff.1 hg
    have htl := G.tl
    have hol := G.ol
    have hyg : x.c.good = true := hg
    rw [hg] at cV
    by_cases hlen : l.length ≤ 40
    · have HN : Hid (runR x.c l = ((runGo x.c 0 l).1, (runGo x.c 0 l).2, true)) := runR_good hg hlen
      have hrd := StpsR.el hs
      go_enter Try.func21, Try.ntmps21
      go_wp2_with fail
      generalize ((w.alloc (.cells #[.slice x.TA x.t.length x.tc, .slice x.OA x.o.length x.oc, .int .i64 x.got, .int .i64 x.sold, .int .i64 x.missed] 25)).alloc (.cells #[.slice none 0 0, .slice none 0 0, .int .i64 0, .int .i64 0, .int .i64 0] 25)) = W at L1 L2 b2 hR0 hsz ⊢
      refine (cV W hR0).mono ?_
      rintro e W1 ⟨rfl, hb1⟩
      have b3 := b2.trans (hb1.mono b2.size)
      have L3 := L2.below hb1 L2.lt
      have L1a := L1.below hb1 L1.lt
      have hR1 := hR0.then hb1
      clear cV L1 L2 hR0 b2
      have c0 := L1a.cell 0
      have c1 := L1a.cell 1
      have c2 := L1a.cell 2
      have c3 := L1a.cell 3
      have c4 := L1a.cell 4
      simp only [List.getElem?_cons_zero, List.getElem?_cons_succ] at c0 c1 c2 c3 c4
      go_wp2_with fail
      refine (l32Own_any x W1 hR1 (by omega) (by omega)).mono ?_
      rintro e W2 ⟨TA, tc, OA, oc, rfl, hT, hO, hb2⟩
      simp only [Off.c] at hT hO
      clear c0 c1 c2 c3 c4
      have hal := (Below.refl W2.heap.size W2).alloc (Nat.le_refl _) (.cells #[.slice TA x.t.length tc, .slice OA x.o.length oc, .int .i64 x.got, .int .i64 x.sold, .int .i64 x.missed] 25)
      have P := Lies.new W2 25 #[.slice TA x.t.length tc, .slice OA x.o.length oc, .int .i64 x.got, .int .i64 x.sold, .int .i64 x.missed]
      have hT3 := ownsRow_lower (ownsRow_below hT hal) b3.size
      have hO3 := ownsRow_lower (ownsRow_below hO hal) b3.size
      have b4 := b3.trans ((bthen hb2 hal).mono b3.size)
      have L4 := (L3.below hb2 L3.lt).below hal (Nat.lt_of_lt_of_le L3.lt hb2.size)
      have hgg : w.heap.size + 1 < W2.heap.size := Nat.lt_of_lt_of_le L3.lt hb2.size
      obtain ⟨W3, hW3⟩ : ∃ W3, W2.alloc (.cells #[.slice TA x.t.length tc, .slice OA x.o.length oc, .int .i64 x.got, .int .i64 x.sold, .int .i64 x.missed] 25) = W3 := ⟨_, rfl⟩
      rw [hW3] at P hT3 hO3 b4 L4
      generalize hg2 : W2.heap.size = g2 at P hgg
      have HI0 : Hid (OffIn W3 w.heap.size g2 x.c) := ⟨TA, tc, OA, oc, P, by omega, hT3, hO3⟩
      have HL4 := Lib.hid L4
      clear hal hT hO hb2 L3 b3 L1a hR1 hT3 hO3 P L4 hb1
      simp only [Off.c, Oc.at, Off.val]
      go_wp2_with (rw [hW3]; clear hW3; rw [hg2])

      go_loopw [8, 9, 10, 11] (fun made i _ _ wr => ∃ (k : Nat) (y : Oc) (n : Int), k ≤ l.length ∧ i = .int .i64 k ∧ made = .int .i64 n ∧ (0 ≤ n ∧ n ≤ k) ∧ Hid (y.good = true) ∧ Hid (OffIn wr w.heap.size g2 y) ∧ Hid (Lies wr (w.heap.size + 1) 25 [.slice none 0 0, .slice none 0 0, .int .i64 0, .int .i64 0, .int .i64 0]) ∧ Below w.heap.size w wr ∧ Hid (runGo y n (l.drop k) = runGo x.c 0 l)) (fun _ i _ _ _ => l.length - (intOf i).toNat)
      case atStart => exact ⟨0, x.c, 0, Nat.zero_le _, rfl, rfl, by omega, hyg, HI0, HL4, b4, rfl⟩
      case round =>
        clear b4 HI0 HL4
        obtain ⟨k, y, n, hk, rfl, rfl, ⟨n1, n2⟩, HG, HI, HL, hbr, HR⟩ := hrel
        by_cases hlt : k < l.length
        · obtain ⟨b, off, rfl, hb, hcell⟩ := hrd (by omega)
          obtain ⟨c0, c1, c2, c3⟩ := hcell k hlt
          have hN := runGo_none (y := y) (n := n) hlt
          have hS := fun r => runGo_some (y := y) (n := n) (r := r) hlt
          obtain ⟨s, hse⟩ : ∃ s, s = l[k] := ⟨_, rfl⟩
          rw [← hse] at c0 c1 c2 c3 hN hS
          clear hse hcell hrd
          obtain ⟨kd, st, pe, va⟩ := s
          simp only at c0 c1 c2 c3
          obtain ⟨q, rfl⟩ : ∃ q : Since w.heap.size w, wr = q.val := ⟨⟨wr, hbr⟩, rfl⟩
          have d0 := c0 q
          have d1 := c1 q
          have d2 := c2 q
          have d3 := c3 q
          have cK := fun W => l32Step_any ⟨kd, st, pe, va⟩ W
          clear c0 c1 c2 c3
          cases hok : Stp.okS ⟨kd, st, pe, va⟩
          · rw [hok] at cK
            have hok' : Stp.ok ⟨kd, st, pe, va⟩ = false := by rw [Stp.ok_okS, hok]; rfl
            have HE : Hid (runGo y n (l.drop (k + 1)) = runGo x.c 0 l) := by rw [← hN (by unfold nextD; rw [hok']; rfl)]; exact HR.out
            clear hN hS hok hok'
            go_wp2_with fail
            refine (cK _).mono ?_
            rintro e W5 ⟨rfl, hb5⟩
            clear d0 d1 d2 d3
            go_wp2
            go_roundw
            case rel => exact ⟨k + 1, y, n, by omega, by go_num, rfl, by omega, HG, Lib.hid (HI.out.then hb5), Lib.hid (HL.out.below hb5 HL.out.lt), q.below.trans (hb5.mono q.size), HE⟩
            case measure => simp [intOf]; omega
          · rw [hok] at cK
            obtain ⟨TA7, tc7, OA7, oc7, P7⟩ := HI.out
            have hM := makeS_stepD (y.at TA7 tc7 OA7 oc7) ⟨kd, st, pe, va⟩ (Oc.good_off HG.out TA7 tc7 OA7 oc7) hok
            have cS := fun W hA => l32Make_any (y.at TA7 tc7 OA7 oc7) ⟨kd, st, pe, va⟩ W hA (Oc.good_off HG.out TA7 tc7 OA7 oc7) (ownsRow_cap P7.t) hok
            simp only [show (y.at TA7 tc7 OA7 oc7).c = y from rfl] at cS hM
            obtain ⟨r, bb, hrb⟩ : ∃ r bb, makeS y ⟨kd, st, pe, va⟩ = (r, bb) := ⟨_, _, rfl⟩
            rw [hrb] at cS hM
            clear hok hrb
            go_wp2_with fail
            refine (cK _).mono ?_
            rintro e W5 ⟨rfl, hb5⟩
            have P75 := P7.then hb5
            have L5 := HL.out.below hb5 HL.out.lt
            have q5 := q.below.trans (hb5.mono q.size)
            have K75 := P75.lies
            have e0 : ∀ W', Below W5.heap.size W5 W' → W'.cell? ⟨b, off + k * 4, none⟩ = some (.int .i64 kd) := fun W' hb' => (hb'.cell (show b < W5.heap.size by have := q5.size; omega)).trans ((hb5.cell (show b < q.val.heap.size by have := q.size; omega)).trans d0)
            have e1 : ∀ W', Below W5.heap.size W5 W' → W'.cell? ⟨b, off + k * 4 + 1, none⟩ = some (.int .i64 st) := fun W' hb' => (hb'.cell (show b < W5.heap.size by have := q5.size; omega)).trans ((hb5.cell (show b < q.val.heap.size by have := q.size; omega)).trans d1)
            have e2 : ∀ W', Below W5.heap.size W5 W' → W'.cell? ⟨b, off + k * 4 + 2, none⟩ = some (.int .i64 pe) := fun W' hb' => (hb'.cell (show b < W5.heap.size by have := q5.size; omega)).trans ((hb5.cell (show b < q.val.heap.size by have := q.size; omega)).trans d2)
            have e3 : ∀ W', Below W5.heap.size W5 W' → W'.cell? ⟨b, off + k * 4 + 3, none⟩ = some (.int .i64 va) := fun W' hb' => (hb'.cell (show b < W5.heap.size by have := q5.size; omega)).trans ((hb5.cell (show b < q.val.heap.size by have := q.size; omega)).trans d3)
            clear d0 d1 d2 d3 P7 HI HL
            go_wp2_with fail
            refine wp_region_factsR (fun _ => (fun W9 => Below W5.heap.size W5 W9)) (fun i w1 w2 => i ∉ [10] → Below w1.heap.size w1 w2) (by kernel_rfl) (by kernel_rfl) (by kernel_rfl) (Below.refl _ _).drew ?_
            simp only [fillOps, Act.put, List.setIfInBounds_toArray, List.set_cons_zero, List.set_cons_succ, Nat.zero_add, Nat.reduceAdd]
            apply wpFactsR_val
            case h1 =>
              intro vs L9 w9 hG9 hC9 hB K9 hK9
              have q0 : w9.cell? ⟨g2, 0, none⟩ = some (.slice TA7 y.t.length tc7) := (K75.below hC9 K75.lt).cell 0
              have q1 : w9.cell? ⟨g2, 1, none⟩ = some (.slice OA7 y.o.length oc7) := (K75.below hC9 K75.lt).cell 1
              have q2 : w9.cell? ⟨g2, 2, none⟩ = some (.int .i64 y.got) := (K75.below hC9 K75.lt).cell 2
              have q3 : w9.cell? ⟨g2, 3, none⟩ = some (.int .i64 y.sold) := (K75.below hC9 K75.lt).cell 3
              have q4 : w9.cell? ⟨g2, 4, none⟩ = some (.int .i64 y.missed) := (K75.below hC9 K75.lt).cell 4
              simp only [Act.put, List.setIfInBounds_toArray, List.set_cons_zero, List.set_cons_succ] at hK9
              go_simp
              exact hK9 _ _ rfl hC9 (fun _ => Below.refl _ _)
            apply wpFactsR_val
            case h1 =>
              intro vs L9 w9 hG9 hC9 hB K9 hK9
              simp only [Act.put, List.setIfInBounds_toArray, List.set_cons_zero, List.set_cons_succ] at hK9
              go_simp
              exact hK9 _ _ rfl hC9 (fun _ => Below.refl _ _)
            apply wpFactsR_val
            case h1 =>
              intro vs L9 w9 hG9 hC9 hB K9 hK9
              simp only [Act.put, List.setIfInBounds_toArray, List.set_cons_zero, List.set_cons_succ] at hK9
              go_simp
              exact hK9 _ _ rfl hC9 (fun _ => Below.refl _ _)
            apply wpFactsR_val
            case h1 =>
              intro vs L9 w9 hG9 hC9 hB K9 hK9
              have d1 := FactN.eq (hB 1 _ (by kernel_rfl) (by kernel_rfl) rfl (by decide))
              have d2 := FactN.eq (hB 2 _ (by kernel_rfl) (by kernel_rfl) rfl (by decide))
              simp only [d1, d2] at hK9 ⊢
              simp only [Act.put, List.setIfInBounds_toArray, List.set_cons_zero, List.set_cons_succ] at hK9
              go_simp
              exact hK9 _ _ rfl hC9 (fun _ => Below.refl _ _)
            refine wpFactsR_val (.agg #[.int .i64 kd, .int .i64 st, .int .i64 pe, .int .i64 va]) (fun vs L9 w9 hG9 hC9 hB K9 hK9 => ?hd4) ?rd4
            case hd4 =>
              have d3 := FactN.eq (hB 3 _ (by kernel_rfl) (by kernel_rfl) rfl (by decide))
              simp only [d3] at hK9 ⊢
              have v0 := e0 w9 hC9
              have v1 := e1 w9 hC9
              have v2 := e2 w9 hC9
              have v3 := e3 w9 hC9
              go_simp
              exact hK9 _ _ rfl hC9 (fun _ => Below.refl _ _)
            refine wpFactsR_some [10] (fun v w9 => ∃ u, v = .tuple #[u, .bool bb] ∧ OwnV w9 w.heap.size r u) ?sd5 (fun vs L9 w9 hG9 hC9 hB K9 hK9 => ?hd5) ?rd5
            case sd5 =>
              intro i9 hi9 hb9 ha9 v w1 w2 hv hT9
              have hb := hT9 (fun hm => by
                simp only [List.mem_cons, List.not_mem_nil, or_false] at hm hb9
                subst hm
                · exact hb9 (by simp))
              obtain ⟨u, q1, q2⟩ := hv
              exact ⟨u, q1, q2.below hb⟩
            case hd5 =>
              have d0 := FactN.eq (hB 0 _ (by kernel_rfl) (by kernel_rfl) rfl (by decide))
              have d4 := FactN.eq (hB 4 _ (by kernel_rfl) (by kernel_rfl) rfl (by decide))
              simp only [d0, d4] at hK9 ⊢
              simp only [Act.put, List.setIfInBounds_toArray, List.set_cons_zero, List.set_cons_succ] at hK9
              go_simp
              refine (cS w9 ⟨ownsRow_reads (ownsRow_below P75.t hC9), ownsRow_reads (ownsRow_below P75.o hC9)⟩).mono ?_
              rintro en w8 ⟨TA, tc, OA, oc, rfl, hT, hO, hb8⟩
              exact hK9 _ _ _ rfl ⟨_, rfl, TA, tc, OA, oc, rfl, ownsRow_lower hT (Nat.le_trans q5.size hC9.size), ownsRow_lower hO (Nat.le_trans q5.size hC9.size)⟩ (hC9.trans (hb8.mono hC9.size)) (fun _ => hb8)
            refine wpFactsR_pair [] 5 (fun u v _ => v = u ∧ ∃ q, u = .tuple #[q, .bool bb]) (by kernel_rfl) ?sd6 (fun vs L9 w9 hG9 hC9 hB K9 hK9 => ?hd6) ?rd6
            case sd6 =>
              intro i9 hi9 hb9 ha9 u v w1 w2 hv hT9
              exact hv
            case hd6 =>
              obtain ⟨u5, e5, h5⟩ := hB 5 _ (by kernel_rfl) (by kernel_rfl) rfl (by decide)
              simp only [e5] at hK9 ⊢
              go_simp
              exact hK9 _ _ _ rfl ⟨rfl, u5, rfl⟩ hC9 (fun _ => Below.refl _ _)
            refine wpFactsR_some [10] (fun v w9 => OwnV w9 w.heap.size r v) ?sd7 (fun vs L9 w9 hG9 hC9 hB K9 hK9 => ?hd7) ?rd7
            case sd7 =>
              intro i9 hi9 hb9 ha9 v w1 w2 hv hT9
              have hb := hT9 (fun hm => by
                simp only [List.mem_cons, List.not_mem_nil, or_false] at hm hb9
                subst hm
                · exact hb9 (by simp))
              exact hv.below hb
            case hd7 =>
              simp only [Act.put, List.setIfInBounds_toArray, List.set_cons_zero, List.set_cons_succ] at hK9
              obtain ⟨q5, _⟩ := hB 6 _ (by kernel_rfl) (by kernel_rfl) rfl (by decide)
              obtain ⟨u4, e4, h4⟩ := hB 5 _ (by kernel_rfl) (by kernel_rfl) rfl (by decide)
              simp only [q5, e4] at hK9 ⊢
              go_simp
              exact hK9 _ _ _ rfl h4 hC9 (fun _ => Below.refl _ _)
            refine wpFactsR_val (.bool bb) (fun vs L9 w9 hG9 hC9 hB K9 hK9 => ?hd8) ?rd8
            case hd8 =>
              obtain ⟨q5, u4, e4⟩ := hB 6 _ (by kernel_rfl) (by kernel_rfl) rfl (by decide)
              simp only [q5, e4] at hK9 ⊢
              go_simp
              exact hK9 _ _ rfl hC9 (fun _ => Below.refl _ _)
            refine wpFactsR_some [10] (fun v w9 => ∃ g9, v = .pointer (some ⟨g9, 0, none⟩) ∧ W5.heap.size ≤ g9 ∧ Lies w9 g9 25 [.slice none 0 0, .slice none 0 0, .int .i64 0, .int .i64 0, .int .i64 0]) ?sd9 (fun vs L9 w9 hG9 hC9 hB K9 hK9 => ?hd9) ?rd9
            case sd9 =>
              intro i9 hi9 hb9 ha9 v w1 w2 hv hT9
              have hb := hT9 (fun hm => by
                simp only [List.mem_cons, List.not_mem_nil, or_false] at hm hb9
                subst hm
                · exact hb9 (by simp))
              obtain ⟨g9, q1, q2, q3⟩ := hv
              exact ⟨g9, q1, q2, q3.below hb q3.lt⟩
            case hd9 =>
              simp only [Act.put, List.setIfInBounds_toArray, List.set_cons_zero, List.set_cons_succ] at hK9
              go_simp
              have hb8 := (Below.refl w9.heap.size w9).alloc (Nat.le_refl _) (.cells #[.slice none 0 0, .slice none 0 0, .int .i64 0, .int .i64 0, .int .i64 0] 25)
              exact hK9 _ _ _ rfl ⟨_, rfl, hC9.size, Lies.new w9 25 #[.slice none 0 0, .slice none 0 0, .int .i64 0, .int .i64 0, .int .i64 0]⟩ (hC9.trans (hb8.mono hC9.size)) (fun _ => hb8)
            refine wpFactsR_pair [] 9 (fun u _ w9 => ∃ g9, u = .pointer (some ⟨g9, 0, none⟩) ∧ W5.heap.size ≤ g9 ∧ OffIn w9 w.heap.size g9 r) (by kernel_rfl) ?sd10 (fun vs L9 w9 hG9 hC9 hB K9 hK9 => ?hd10) ?rd10
            case sd10 =>
              intro i9 hi9 hb9 ha9 u v w1 w2 hv hT9
              have hb := hT9 (fun hm => by
                simp only [List.mem_cons, List.not_mem_nil, or_false] at hm hb9
                subst hm
                · exact hi9 rfl)
              obtain ⟨g9, q1, q2, q3⟩ := hv
              exact ⟨g9, q1, q2, q3.then hb⟩
            case hd10 =>
              obtain ⟨g9, hv9, hg9, hA9⟩ := hB 9 _ (by kernel_rfl) (by kernel_rfl) rfl (by decide)
              obtain ⟨TA, tc, OA, oc, e15, h1, h2⟩ := hB 7 _ (by kernel_rfl) (by kernel_rfl) rfl (by decide)
              simp only [hv9, e15] at hK9 ⊢
              have z0 := hA9.cell 0
              have z1 := hA9.cell 1
              have z2 := hA9.cell 2
              have z3 := hA9.cell 3
              have z4 := hA9.cell 4
              simp only [List.getElem?_cons_zero, List.getElem?_cons_succ] at z0 z1 z2 z3 z4
              have f0 := hA9.frozen 0
              have f1 := hA9.frozen 1
              have f2 := hA9.frozen 2
              have f3 := hA9.frozen 3
              have f4 := hA9.frozen 4
              have hS9 := Lib.hid (OwnV.store h1 h2 hA9 (Nat.le_trans q5.size hg9))
              have hD9 := Lib.hid (hC9.trans (stOff_below (v0 := .slice TA r.t.length tc) (v1 := .slice OA r.o.length oc) (v2 := .int .i64 r.got) (v3 := .int .i64 r.sold) (v4 := .int .i64 r.missed) hA9 hg9))
              clear h1 h2 hA9
              go_simp
              exact hK9 _ undef _ rfl ⟨g9, rfl, hg9, hS9.out⟩ hD9.out (fun hq => (hq (by decide)).elim)
            apply wpFactsR_val
            case h1 =>
              intro vs L9 w9 hG9 hC9 hB K9 hK9
              have d8 := FactN.eq (hB 8 _ (by kernel_rfl) (by kernel_rfl) rfl (by decide))
              simp only [d8] at hK9 ⊢
              simp only [Act.put, List.setIfInBounds_toArray, List.set_cons_zero, List.set_cons_succ] at hK9
              go_simp
              exact hK9 _ _ rfl hC9 (fun _ => Below.refl _ _)
            refine wpFactsR_nil fun vs L9 W7 hL9 hC7 hB => ?_
            obtain ⟨g6, hvg, hg6, P6⟩ := hB 10 _ rfl rfl (by decide)
            have dl := FactN.eq (hB 11 _ rfl rfl (by decide))
            simp only [hvg, dl]
            clear hB hL9 hvg dl K75 e0 e1 e2 e3 cS cK
            have P77 := P75.then hC7
            have L7 := L5.below hC7 L5.lt
            have q7 := q5.trans (hC7.mono q5.size)
            have h25 := P75.lies.lt
            clear P75 L5 q5 hC7
            cases bb
            · have hD : nextD y ⟨kd, st, pe, va⟩ = none := by unfold nextD; rw [← hM]; rfl
              have HE : Hid (runGo y n (l.drop (k + 1)) = runGo x.c 0 l) := by rw [← hN hD]; exact HR.out
              have HI7 := Lib.hid (show OffIn _ _ _ _ from ⟨TA7, tc7, OA7, oc7, P77⟩)
              have HL7 := Lib.hid L7
              clear hN hS HR hD hM P77 L7 P6
              go_wp2
              go_roundw
              case rel => exact ⟨k + 1, y, n, by omega, by go_num, rfl, by omega, HG, HI7, HL7, q7, HE⟩
              case measure => simp [intOf]; omega
            · have hD : nextD y ⟨kd, st, pe, va⟩ = some r := by unfold nextD; rw [← hM]; rfl
              have HE : Hid (runGo r (n + 1) (l.drop (k + 1)) = runGo x.c 0 l) := by rw [← hS r hD]; exact HR.out
              have HG2 : Hid (r.good = true) := nextD_good hD
              clear hN hS HR hD hM HG
              have hw1 : IntKind.i64.wrap (n + 1) = n + 1 := IntWalk.i64_in _ (by omega)
              obtain ⟨TA, tc, OA, oc, P6⟩ := P6
              have hT := P6.t
              have hO := P6.o
              have P8 := P6.lies
              have K7 := P77.lies
              have p0 := P8.cell 0
              have p1 := P8.cell 1
              have p2 := P8.cell 2
              have p3 := P8.cell 3
              have p4 := P8.cell 4
              simp only [List.getElem?_cons_zero, List.getElem?_cons_succ] at p0 p1 p2 p3 p4
              have k0 := K7.cell 0
              have k1 := K7.cell 1
              have k2 := K7.cell 2
              have k3 := K7.cell 3
              have k4 := K7.cell 4
              simp only [List.getElem?_cons_zero, List.getElem?_cons_succ] at k0 k1 k2 k3 k4
              have f0 := K7.frozen 0
              have f1 := K7.frozen 1
              have f2 := K7.frozen 2
              have f3 := K7.frozen 3
              have f4 := K7.frozen 4
              have HI8 := Lib.hid (OwnV.store hT hO K7 (show w.heap.size ≤ g2 by omega))
              have HL8 := Lib.hid (stOff_other (v0 := .slice TA r.t.length tc) (v1 := .slice OA r.o.length oc) (v2 := .int .i64 r.got) (v3 := .int .i64 r.sold) (v4 := .int .i64 r.missed) (g := g2) L7 (by omega))
              have HB8 := Lib.hid (q7.trans (stOff_below (v0 := .slice TA r.t.length tc) (v1 := .slice OA r.o.length oc) (v2 := .int .i64 r.got) (v3 := .int .i64 r.sold) (v4 := .int .i64 r.missed) K7 (show w.heap.size ≤ g2 by omega)))
              clear hT hO K7 L7 q7 P8
              go_wp2
              go_roundw
              case rel => exact ⟨k + 1, r, n + 1, by omega, by go_num, rfl, by omega, HG2, HI8, HL8, HB8.out, HE⟩
              case measure => simp [intOf]; omega
        · have HE : Hid (runGo x.c 0 l = (y, n)) := by rw [← HR.out, List.drop_eq_nil_of_le (by omega)]; rfl
          clear hrd
          obtain ⟨TA, tc, OA, oc, P⟩ := HI.out
          have K := P.lies
          have L4 := HL.out
          have k0 := K.cell 0
          have k1 := K.cell 1
          have k2 := K.cell 2
          have k3 := K.cell 3
          have k4 := K.cell 4
          simp only [List.getElem?_cons_zero, List.getElem?_cons_succ] at k0 k1 k2 k3 k4
          have z0 := L4.cell 0
          have z1 := L4.cell 1
          have z2 := L4.cell 2
          have z3 := L4.cell 3
          have z4 := L4.cell 4
          simp only [List.getElem?_cons_zero, List.getElem?_cons_succ] at z0 z1 z2 z3 z4
          have f0 := L4.frozen 0
          have f1 := L4.frozen 1
          have f2 := L4.frozen 2
          have f3 := L4.frozen 3
          have f4 := L4.frozen 4
          have HT := Lib.hid (stOff_row (v0 := .slice TA y.t.length tc) (v1 := .slice OA y.o.length oc) (v2 := .int .i64 y.got) (v3 := .int .i64 y.sold) (v4 := .int .i64 y.missed) L4 P.t ne_owt)
          have HO := Lib.hid (stOff_row (v0 := .slice TA y.t.length tc) (v1 := .slice OA y.o.length oc) (v2 := .int .i64 y.got) (v3 := .int .i64 y.sold) (v4 := .int .i64 y.missed) L4 P.o ne_owo)
          have HB := Lib.hid (hbr.trans (stOff_below (v0 := .slice TA y.t.length tc) (v1 := .slice OA y.o.length oc) (v2 := .int .i64 y.got) (v3 := .int .i64 y.sold) (v4 := .int .i64 y.missed) L4 (show w.heap.size ≤ w.heap.size + 1 by omega)))
          clear P K L4 HI HL hbr
          go_wp2
          refine bodyPost_ret (v := .tuple #[.agg #[.slice TA y.t.length tc, .slice OA y.o.length oc, .int .i64 y.got, .int .i64 y.sold, .int .i64 y.missed], .int .i64 n, .bool true]) (by simp [results, Try.results21, go_sem, *]) rfl ?_
          rw [HN.out, HE.out]
          exact ⟨_, rfl, ⟨TA, tc, OA, oc, rfl, HT.out, HO.out⟩, HB.out⟩
    · have HN : Hid (runR x.c l = (Oc.zero, 0, false)) := runR_long hlen
      go_enter Try.func21, Try.ntmps21
      go_wp2_with fail
      generalize ((w.alloc (.cells #[.slice x.TA x.t.length x.tc, .slice x.OA x.o.length x.oc, .int .i64 x.got, .int .i64 x.sold, .int .i64 x.missed] 25)).alloc (.cells #[.slice none 0 0, .slice none 0 0, .int .i64 0, .int .i64 0, .int .i64 0] 25)) = W at L1 L2 b2 hR0 hsz ⊢
      refine (cV W hR0).mono ?_
      rintro e W1 ⟨rfl, hb1⟩
      have b3 := b2.trans (hb1.mono b2.size)
      have L3 := L2.below hb1 L2.lt
      clear L1 L2 hR0 cV hb1 b2
      have z0 := L3.cell 0
      have z1 := L3.cell 1
      have z2 := L3.cell 2
      have z3 := L3.cell 3
      have z4 := L3.cell 4
      simp only [List.getElem?_cons_zero, List.getElem?_cons_succ] at z0 z1 z2 z3 z4
      have f0 := L3.frozen 0
      have f1 := L3.frozen 1
      have f2 := L3.frozen 2
      have f3 := L3.frozen 3
      have f4 := L3.frozen 4
      have bz := b3.trans (stOff_below (v0 := .slice none 0 0) (v1 := .slice none 0 0) (v2 := .int .i64 0) (v3 := .int .i64 0) (v4 := .int .i64 0) L3 (show w.heap.size ≤ w.heap.size + 1 by omega))
      go_wp2
      refine bodyPost_ret (v := .tuple #[.agg #[.slice none 0 0, .slice none 0 0, .int .i64 0, .int .i64 0, .int .i64 0], .int .i64 0, .bool false]) (by simp [results, Try.results21, go_sem, *]) rfl ?_
      rw [HN.out]
      exact ⟨_, rfl, ⟨none, 0, none, 0, rfl, World.ownsRow_nil _ _ _ _, World.ownsRow_nil _ _ _ _⟩, bz⟩
end Go.Proofs.Ytdiojhjkcholiaa

/- Marks on a copy of an office, the count bounded. -/
namespace Go.Proofs.Ytdiojhjkcholiaa
open Go.RowKit

set_option maxHeartbeats 1000000 in
theorem markOffice_bd (x : Off) (g1 g2 lo hi : Nat) (w : World) (hn : x.t.length ≤ 1048576) (hm : x.o.length ≤ 1048576) (l1 : lo ≤ g1) (l2 : g1 < g2) (l3 : g2 < hi) (l4 : hi ≤ w.heap.size)
    (h1 : Lies w g1 74 (x.t.flatMap Tray.enc)) (h2 : Lies w g2 100 (x.o.flatMap Outing.enc)) :
    Calls Try.prog 18 #[(x.copy g1 g2).val, .int .i64 1] w fun e w' => (∃ k1 : Int, e = .returned (.int .i64 k1) ∧ 0 ≤ k1 ∧ k1 ≤ 10000000) ∧ Mid lo hi w w' := by
  have b0 : Mid lo hi w (w.alloc (.cells #[.slice (some ⟨g1, 0, none⟩) x.t.length x.t.length, .slice (some ⟨g2, 0, none⟩) x.o.length x.o.length, .int .i64 x.got, .int .i64 x.sold, .int .i64 x.missed] 25)) :=
    ⟨rfl, rfl, rfl, by simp, fun k hk _ => Below.heap_alloc w _ k hk⟩
  have L0 := Lies.new w 25 #[.slice (some ⟨g1, 0, none⟩) x.t.length x.t.length, .slice (some ⟨g2, 0, none⟩) x.o.length x.o.length, .int .i64 x.got, .int .i64 x.sold, .int .i64 x.missed]
  have k1 := h1.alloc (.cells #[.slice (some ⟨g1, 0, none⟩) x.t.length x.t.length, .slice (some ⟨g2, 0, none⟩) x.o.length x.o.length, .int .i64 x.got, .int .i64 x.sold, .int .i64 x.missed] 25)
  have k2 := h2.alloc (.cells #[.slice (some ⟨g1, 0, none⟩) x.t.length x.t.length, .slice (some ⟨g2, 0, none⟩) x.o.length x.o.length, .int .i64 x.got, .int .i64 x.sold, .int .i64 x.missed] 25)
  go_enter Try.func18, Try.ntmps18
  go_wp2_with fail
  generalize w.alloc (.cells #[.slice (some ⟨g1, 0, none⟩) x.t.length x.t.length, .slice (some ⟨g2, 0, none⟩) x.o.length x.o.length, .int .i64 x.got, .int .i64 x.sold, .int .i64 x.missed] 25) = W at b0 L0 k1 k2 ⊢
  refine (markTrays_any (some ⟨g1, 0, none⟩) x.t.length x.t.length lo 1 (x.t.flatMap Tray.enc) W (by omega) (by omega) (by omega) ⟨flat_len Tray.enc 2 Tray.enc_len x.t, by omega, .inr ⟨g1, [], rfl, l1, by simpa using k1⟩⟩).mono ?_
  rintro e w1 ⟨rfl, o1, gr0⟩
  have gr1 : W.grownBy w1 (some g1) := gr0
  clear gr0 o1
  have m1 := b0.trans (Mid.of gr1 (by rintro _ ⟨⟩; exact ⟨l1, by omega⟩))
  have L1 := L0.kept gr1 (by intro e; injection e; omega)
  have j2 := k2.kept gr1 (by intro e; injection e; omega)
  have c1 := L1.cell 1
  simp only [List.getElem?_cons_zero, List.getElem?_cons_succ] at c1
  go_wp2_with fail
  refine (markOutings_any (some ⟨g2, 0, none⟩) x.o.length x.o.length lo _ (x.o.flatMap Outing.enc) w1 (by omega) (by omega) (by omega) ⟨flat_len Outing.enc 3 Outing.enc_len x.o, by omega, .inr ⟨g2, [], rfl, by omega, by simpa using j2⟩⟩).mono ?_
  rintro e w2 ⟨rfl, o2, gr0⟩
  have gr2 : w1.grownBy w2 (some g2) := gr0
  clear gr0 o2
  have m2 := m1.trans (Mid.of gr2 (by rintro _ ⟨⟩; exact ⟨by omega, l3⟩))
  go_wp2
  go_ret
  exact ⟨⟨_, rfl, by omega, by omega⟩, m2⟩
end Go.Proofs.Ytdiojhjkcholiaa
