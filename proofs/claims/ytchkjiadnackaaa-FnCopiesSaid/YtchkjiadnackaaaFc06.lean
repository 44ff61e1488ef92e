/- Fc06: the texts DrawPhs PhrSum PhrMark PhrTally CopiesP CopiesQ VInts CopiesR, joined into one file. -/
import Derived.Test.YtchkjiadnackaaaFc01
import Derived.Test.YtchkjiadnackaaaFc02
import Derived.Test.YtchkjiadnackaaaFc03
import Derived.Test.YtchkjiadnackaaaFc05

set_option linter.unusedVariables false

/- The reference draws phrases. (Printed by gen_dphs.py) -/
namespace Go.Proofs.Ytchkjiadnackaaa
open Go.RowKit

theorem Env.wroteV {w W W' : World} {g : Nat} {A : Option Addr} {bs : List UInt8} {cap m B k n : Nat} {e : TypeId} {v : Value} {xs : List Value} (E : Env w W g A bs cap m) (ho : W.ownsRow B e k v n xs) (hg : W.grownBy W' v.ownBlock) (hB : w.heap.size ≤ B) (hgB : g < B) : Env w W' g A bs cap m := by
  cases hv : v.ownBlock with
  | none => rw [hv] at hg; exact E.below ⟨hg.os, hg.tape, hg.output, hg.size, fun j hj => hg.block j hj (by simp)⟩
  | some b => rw [hv] at hg; have := (ho.lt b hv).1; exact E.wrote hg (by omega) (by omega)
theorem ownsRow_gr {W W' : World} {B k n g : Nat} {e : TypeId} {v : Value} {xs : List Value} (h : W.ownsRow B e k v n xs) (hg : W.grownBy W' (some g)) (hB : g < B) : W'.ownsRow B e k v n xs :=
  h.kept hg (by
    cases hv : v.ownBlock with
    | none => left; rfl
    | some b => right; have := (h.lt b hv).1; intro e; injection e; omega)
theorem ownsRow_off {W W' : World} {B k n g : Nat} {e : TypeId} {v : Value} {xs : List Value} (h : W.ownsRow B e k v n xs) (hg : W.grownBy W' (some g)) (hB : ∀ b, v.ownBlock = some b → b < g) : W'.ownsRow B e k v n xs :=
  h.kept hg (by
    cases hv : v.ownBlock with
    | none => left; rfl
    | some b => right; have := hB b hv; intro e; injection e; omega)
theorem grown_row {W W' W'' : World} {B k n g : Nat} {e : TypeId} {v : Value} {xs : List Value} (G : W.grownBy W' (some g)) (ho : W'.ownsRow B e k v n xs) (hg : W'.grownBy W'' v.ownBlock) (hB : W.heap.size ≤ B) : W.grownBy W'' (some g) := by
  cases hv : v.ownBlock with
  | none => rw [hv] at hg; exact grown_trans G ⟨hg.os, hg.tape, hg.output, hg.size, fun j hj _ => hg.block j hj (by simp)⟩
  | some b => rw [hv] at hg; have := (ho.lt b hv).1; exact grown_own G hg (by omega)
theorem RowPh.gr {w w' : World} {B g : Nat} {v : Value} {l : List Ph} (h : RowPh w B v l) (hg : w.grownBy w' (some g)) (hB : g < B) : RowPh w' B v l :=
  ⟨ownsRow_gr h.row hg hB, fun x hx => (h.fs x hx).gr hg hB, h.nd⟩
/-- The phrases drawn so far. -/
structure DPs (w W wx : World) (g : Nat) (A : Option Addr) (bs : List UInt8) (cap m : Nat) (l : List Ph) (v : Value) : Prop where
  env : Env w wx g A bs cap m
  own : RowPh wx W.heap.size v l
  gr : W.grownBy wx (some g)
/-- And one more, in block gp, that is to come to them. -/
structure DQs (w W wx : World) (g : Nat) (A : Option Addr) (bs : List UInt8) (cap m B1 : Nat) (l : List Ph) (v : Value) (gp : Nat) (y : Ph) : Prop where
  env : Env w wx g A bs cap m
  own : RowPh wx W.heap.size v l
  gr : W.grownBy wx (some g)
  now : Lies wx gp 42 y.enc
  oy : OwnS wx B1 3 1 y.A y.f.length (encIs y.f)
  low : ∀ b, v.ownBlock = some b → b < B1
  lowf : ∀ x ∈ l, ∀ b, x.A.map (·.block) = some b → b < B1
  hb : B1 ≤ gp
  hB : W.heap.size ≤ B1
section
variable {w W wx wy : World} {g : Nat} {A : Option Addr} {bs : List UInt8} {cap m m' B1 gp : Nat} {l : List Ph} {v v' : Value} {y z : Ph}
theorem DPs.mono (h : DPs w W wx g A bs cap m l v) (hm : m ≤ m') : DPs w W wx g A bs cap m' l v := { h with env := h.env.mono hm }
theorem DPs.next (h : DPs w W wx g A bs cap m l v) (E : Env w wy g A bs cap m') (hg : wx.grownBy wy (some g)) (hB : g < W.heap.size) : DPs w W wy g A bs cap m' l v := ⟨E, h.own.gr hg hB, grown_trans h.gr hg⟩
theorem DPs.fresh (E : Env w wx g A bs cap m) (G : W.grownBy wx (some g)) : DPs w W (wx.alloc (.cells #[] 42)) g A bs cap m [] (.slice (some ⟨wx.heap.size, 0, none⟩) 0 0) :=
  ⟨E.alloc _, ⟨owns_empty (Lies.new wx 42 #[]) G.size, by simp, List.Pairwise.nil⟩, grown_alloc G _⟩
theorem OwnS.hi {w : World} {B : Nat} {t : TypeId} {k : Nat} {A : Option Addr} {n : Nat} {cs : List Value} (h : OwnS w B t k A n cs) : ∀ b, A.map (·.block) = some b → b < w.heap.size := by
  obtain ⟨hl, hn, ⟨h0, _⟩ | ⟨q, rest, hA, hq, hh⟩⟩ := h
  · subst h0; intro b e; cases e
  · subst hA; intro b e; injection e with e; subst e; exact hh.lt
theorem OwnS.alloc {w : World} {B : Nat} {t : TypeId} {k : Nat} {A : Option Addr} {n : Nat} {cs : List Value} (h : OwnS w B t k A n cs) (o : Obj) : OwnS (w.alloc o) B t k A n cs := h.then ((Below.refl w.heap.size w).alloc (Nat.le_refl _) o)
theorem RowPh.alloc {w : World} {B : Nat} {v : Value} {l : List Ph} (h : RowPh w B v l) (o : Obj) : RowPh (w.alloc o) B v l := h.below ((Below.refl w.heap.size w).alloc (Nat.le_refl _) o)
theorem DPs.one (h : DPs w W wx g A bs cap m l v) (E : Env w wy g A bs cap m') (hg : wx.grownBy wy (some g)) (hB : g < W.heap.size) (ho : OwnS wy wx.heap.size 3 1 y.A y.f.length (encIs y.f)) : DQs w W (wy.alloc (.cells y.enc.toArray 42)) g A bs cap m' wx.heap.size l v wy.heap.size y :=
  ⟨E.alloc _, (h.own.gr hg hB).alloc _, grown_alloc (grown_trans h.gr hg) _, by have := Lies.new wy 42 y.enc.toArray; simpa using this, ho.alloc _, fun b e => (h.own.row.lt b e).2, fun x hx b e => (h.own.fs x hx).hi b e, hg.size, h.gr.size⟩
theorem DQs.next (h : DQs w W wx g A bs cap m B1 l v gp y) (E : Env w wy g A bs cap m') (hg : wx.grownBy wy (some g)) (hB : g < W.heap.size) : DQs w W wy g A bs cap m' B1 l v gp y :=
  ⟨E, h.own.gr hg hB, grown_trans h.gr hg, h.now.kept hg (by intro e; injection e with e; have := h.hb; have := h.hB; omega), h.oy.gr hg (by have := h.hB; omega), h.low, h.lowf, h.hb, h.hB⟩
theorem DQs.below (h : DQs w W wx g A bs cap m B1 l v gp y) (hb : Below wx.heap.size wx wy) : DQs w W wy g A bs cap m B1 l v gp y :=
  ⟨h.env.below hb, h.own.below hb, grown_trans h.gr (grownAny hb _), h.now.below hb h.now.lt, h.oy.then hb, h.low, h.lowf, h.hb, h.hB⟩
theorem DQs.alloc (h : DQs w W wx g A bs cap m B1 l v gp y) (o : Obj) : DQs w W (wx.alloc o) g A bs cap m B1 l v gp y := h.below ((Below.refl wx.heap.size wx).alloc (Nat.le_refl _) o)
theorem DQs.put (h : DQs w W wx g A bs cap m B1 l v gp y) (hg : wx.grownBy wy (some gp)) (hL : Lies wy gp 42 z.enc) (ho : OwnS wx B1 3 1 z.A z.f.length (encIs z.f)) (hgB : g < W.heap.size) (hw : w.heap.size ≤ W.heap.size) : DQs w W wy g A bs cap m B1 l v gp z :=
  ⟨h.env.wrote hg (by have := h.hb; have := h.hB; omega) (by have := h.hb; have := h.hB; omega),
   ⟨ownsRow_off h.own.row hg (fun b e => by have := h.low b e; have := h.hb; omega), fun x hx => (h.own.fs x hx).ne hg (fun b e => by have := h.lowf x hx b e; have := h.hb; omega), h.own.nd⟩,
   grown_own h.gr hg (by have := h.hb; have := h.hB; omega), hL, ho.ne hg (ho.off h.now ne_int_ph), h.low, h.lowf, h.hb, h.hB⟩
theorem DQs.push (h : DQs w W wx g A bs cap m B1 l v gp y) (ho : wy.ownsRow W.heap.size 42 4 v' (l.length + 1) (l.flatMap Ph.enc ++ y.enc)) (hg : wx.grownBy wy v.ownBlock) (hB : g < W.heap.size) (hw : w.heap.size ≤ W.heap.size) : DPs w W wy g A bs cap m (l ++ [y]) v' := by
  refine ⟨h.env.wroteV h.own.row hg hw hB, ⟨by simpa using ho, fun x hx => ?_, ?_⟩, grown_row h.gr h.own.row hg (Nat.le_refl _)⟩
  · rcases List.mem_append.1 hx with hx | hx
    · exact (h.own.fs x hx).grown h.own.row ne_types hg
    · rw [List.mem_singleton] at hx; subst hx
      exact (h.oy.lower h.hB).grown h.own.row ne_types hg
  · rw [List.pairwise_append]
    refine ⟨h.own.nd, List.pairwise_singleton _ _, fun a ha b hb' => ?_⟩
    rw [List.mem_singleton] at hb'; subst hb'
    cases hA : a.A with
    | none => exact .inl rfl
    | some q =>
      refine .inr fun e => ?_
      have h1 := h.lowf a ha q.block (by rw [hA]; rfl)
      have h2 := h.oy.ge q.block (by rw [← e]; rfl)
      omega
end
theorem DPs.pushN {w W wx wy : World} {g : Nat} {A : Option Addr} {bs : List UInt8} {cap m : Nat} {l : List Ph} {v v' : Value} {y : Ph} (h : DPs w W wx g A bs cap m l v) (hA : y.A = none) (hf : y.f = []) (ho : wy.ownsRow W.heap.size 42 4 v' (l.length + 1) (l.flatMap Ph.enc ++ y.enc)) (hg : wx.grownBy wy v.ownBlock) (hB : g < W.heap.size) (hw : w.heap.size ≤ W.heap.size) : DPs w W wy g A bs cap m (l ++ [y]) v' := by
  refine ⟨h.env.wroteV h.own.row hg hw hB, ⟨by simpa using ho, fun x hx => ?_, ?_⟩, grown_row h.gr h.own.row hg (Nat.le_refl _)⟩
  · rcases List.mem_append.1 hx with hx | hx
    · exact (h.own.fs x hx).grown h.own.row ne_types hg
    · rw [List.mem_singleton] at hx; subst hx
      rw [hA, hf]; exact ⟨rfl, by simp, .inl ⟨rfl, rfl⟩⟩
  · rw [List.pairwise_append]
    refine ⟨h.own.nd, List.pairwise_singleton _ _, fun a ha b hb' => ?_⟩
    rw [List.mem_singleton] at hb'; subst hb'
    by_cases e : a.A = none
    · exact .inl e
    · rw [hA]; exact .inr e

set_option maxRecDepth 100000 in
set_option maxHeartbeats 8000000 in
set_option linter.unusedVariables false in
theorem phrases30_any (g : Nat) (A : Option Addr) (bs : List UInt8) (cap m : Nat) (w W : World) (hm : m ≤ 700000000) (E0 : Env w W g A bs cap m) :
    Calls Try.prog 48 #[.pointer (some ⟨g, 0, none⟩)] W fun e w' => ∃ (l : List Ph) (v : Value), e = .returned v ∧ l.length ≤ 13 ∧ (∀ x ∈ l, x.f.length ≤ 9) ∧ DPs w W w' g A bs cap (m + 2000) l v := by
  have hgW := E0.lt
  have hwW := E0.gr.size
  have S1 := DPs.fresh (W := W) E0 (World.grownBy.refl W (some g))
  go_enter Try.func48, Try.ntmps48
  go_wp2_with fail
  generalize W.alloc (.cells #[] 42) = W1 at S1 ⊢
  generalize (Value.slice (some ⟨W.heap.size, 0, none⟩) 0 0) = v0 at S1 ⊢
  refine (pick_env S1.env 7 (by omega) (by omega)).mono ?_
  rintro e W3 ⟨n, rfl, hn, E3, gr⟩
  have HS := Lib.hid ((S1.next E3 gr hgW).mono (show _ ≤ m + 10 + 120 * (6 - n) by omega))
  clear gr E3 S1 E0
  go_wp2_with fail
  go_loopw [3, 4, 5, 6, 7] (fun o i _ _ _ wr => ∃ (k : Nat) (l : List Ph), k ≤ 6 ∧ i = .int .i64 k ∧ l.length + k ≤ 6 ∧ (∀ x ∈ l, x.f.length ≤ 9) ∧ Hid (DPs w W wr g A bs cap (m + 10 + 120 * (6 - k)) l o)) (fun _ i _ _ _ _ => (intOf i).toNat)
  case atStart => exact ⟨n, [], by omega, rfl, by simp; omega, by simp, HS⟩
  case round =>
    clear HS hn
    obtain ⟨k, l, hk, rfl, hl, h9, HS⟩ := hrel
    have H9 := Lib.hid h9; clear h9
    by_cases hlt : 0 < k
    · obtain ⟨k, rfl⟩ : ∃ q, k = q + 1 := ⟨k - 1, by omega⟩
      clear hlt
      have hi0 : (0 : Int) < ((k + 1 : Nat) : Int) := by omega
      obtain ⟨A6, c6, rfl⟩ := HS.out.own.form
      go_wp2_with fail
      refine (phrase30_any g A bs cap _ w wr (by omega) HS.out.env).mono ?_
      rintro e W4 ⟨x, rfl, hx9, ho4, E4, gr4⟩
      have S5 := HS.out.one E4 gr4 hgW ho4
      clear HS E4 gr4 ho4
      generalize wr.heap.size = B1 at S5
      go_upto_region 6 with fail
      have S5' : DQs w W (W4.alloc (.cells #[.int .i64 x.s, .int .i64 x.c, .slice x.A x.f.length x.cap, .int .i64 x.p] 42)) g A bs cap (m + 10 + 120 * (6 - (k + 1)) + 100) B1 l (.slice A6 l.length c6) W4.heap.size x := S5
      clear S5
      generalize W4.alloc (.cells #[.int .i64 x.s, .int .i64 x.c, .slice x.A x.f.length x.cap, .int .i64 x.p] 42) = W5 at S5' ⊢
      generalize W4.heap.size = gp at S5' ⊢
      by_cases h0 : l.length = 0
      · have hl0 : ¬ (0 : Int) < (l.length : Int) := by omega
        have HSq := Lib.hid S5'
        clear S5' h0
        have K := HSq.out.now
        simp only [Ph.enc] at K
        have d0 := K.cell 0
        have d1 := K.cell 1
        have d2 := K.cell 2
        have d3 := K.cell 3
        simp only [List.getElem?_cons_zero, List.getElem?_cons_succ] at d0 d1 d2 d3
        have HO := Lib.hid HSq.out.own.row
        have hz := HSq.out.gr.size
        clear K
        go_wp2_with (at_builtin; refine wpList_push (w0 := W5) rfl _ _ 24 rfl 42 _ 4 48 Try.underlying24 infoPh rfl (by decide) (by omega) W.heap.size _ _ _ rfl HO #[.int .i64 x.s, .int .i64 x.c, .slice x.A x.f.length x.cap, .int .i64 x.p] 1 _ rfl (by first | rfl | exact Array.size_push _) rfl (by simp [Value.oneCell']) (by omega) hz rfl rfl rfl rfl ?_; intro v' W12 HO12 hg12 _)
        have HS12 := Lib.hid ((HSq.out.push (y := x) HO12.out hg12 hgW hwW).mono (show _ ≤ m + 10 + 120 * (6 - k) by omega))
        clear HSq HO HO12 hg12
        go_roundw
        case rel => exact ⟨k, l ++ [x], by omega, by go_num, (by simp; omega), (by intro z hz; rcases List.mem_append.1 hz with h | h; exact H9.out z h; rw [List.mem_singleton] at h; subst h; exact hx9), HS12⟩
        case measure => simp [intOf] <;> omega
      · have hl0 : (0 : Int) < (l.length : Int) := by omega
        go_wp2_with fail
        refine (one_env S5'.env 3 (by omega) (by omega)).mono ?_
        rintro e W6 ⟨q, rfl, E6, gr6⟩
        have S6 := S5'.next E6 gr6 hgW
        clear E6 gr6 S5'
        cases q
        · have HSq := Lib.hid S6
          clear S6 h0
          have K := HSq.out.now
          simp only [Ph.enc] at K
          have d0 := K.cell 0
          have d1 := K.cell 1
          have d2 := K.cell 2
          have d3 := K.cell 3
          simp only [List.getElem?_cons_zero, List.getElem?_cons_succ] at d0 d1 d2 d3
          have HO := Lib.hid HSq.out.own.row
          have hz := HSq.out.gr.size
          clear K
          go_wp2_with (at_builtin; refine wpList_push (w0 := W6) rfl _ _ 24 rfl 42 _ 4 48 Try.underlying24 infoPh rfl (by decide) (by omega) W.heap.size _ _ _ rfl HO #[.int .i64 x.s, .int .i64 x.c, .slice x.A x.f.length x.cap, .int .i64 x.p] 1 _ rfl (by first | rfl | exact Array.size_push _) rfl (by simp [Value.oneCell']) (by omega) hz rfl rfl rfl rfl ?_; intro v' W12 HO12 hg12 _)
          have HS12 := Lib.hid ((HSq.out.push (y := x) HO12.out hg12 hgW hwW).mono (show _ ≤ m + 10 + 120 * (6 - k) by omega))
          clear HSq HO HO12 hg12
          go_roundw
          case rel => exact ⟨k, l ++ [x], by omega, by go_num, (by simp; omega), (by intro z hz; rcases List.mem_append.1 hz with h | h; exact H9.out z h; rw [List.mem_singleton] at h; subst h; exact hx9), HS12⟩
          case measure => simp [intOf] <;> omega
        · go_wp2_with fail
          refine (pick_env S6.env l.length (by omega) (by omega)).mono ?_
          rintro e W7 ⟨j, rfl, hj, E7, gr7⟩
          have S7 := S6.next E7 gr7 hgW
          clear E7 gr7 S6
          have hj2 : j < l.length := by omega
          obtain ⟨b, off, rfl, hbb, hcell⟩ := S7.own.reads.ph (by omega)
          obtain ⟨c0, c1, c2, c3⟩ := hcell j hj2
          have hzf : IntsR W7 W7.heap.size l[j].A l[j].f := S7.own.reads.f hj2
          have hz9 := H9.out l[j] (List.getElem_mem hj2)
          have HZN : Hid (∀ b, l[j].A.map (·.block) = some b → b ≠ gp) := fun b e => by have := S7.lowf l[j] (List.getElem_mem hj2) b e; have := S7.hb; omega
          obtain ⟨z, hze⟩ : ∃ z, z = l[j] := ⟨_, rfl⟩
          rw [← hze] at c0 c1 c2 c3 hzf hz9 HZN
          clear hze hcell hj
          have k0 := c0 (Since.start _ _)
          have k1 := c1 (Since.start _ _)
          have k2 := c2 (Since.start _ _)
          have k3 := c3 (Since.start _ _)
          change W7.cell? _ = _ at k0
          change W7.cell? _ = _ at k1
          change W7.cell? _ = _ at k2
          change W7.cell? _ = _ at k3
          clear c0 c1 c2 c3
          have S8 := S7.alloc (.cells #[.int .i64 z.s, .int .i64 z.c, .slice z.A z.f.length z.cap, .int .i64 z.p] 42)
          have L8 := Lies.new W7 42 #[.int .i64 z.s, .int .i64 z.c, .slice z.A z.f.length z.cap, .int .i64 z.p]
          have hg8 : gp < W7.heap.size := S7.now.lt
          have hzf8 := hzf.then ((Below.refl W7.heap.size W7).alloc (Nat.le_refl _) (.cells #[.int .i64 z.s, .int .i64 z.c, .slice z.A z.f.length z.cap, .int .i64 z.p] 42))
          have HS7 := Lib.hid S7
          clear S7 hzf
          go_upto_region 9 with fail
          clear k0 k1 k2 k3 HS7
          generalize W7.alloc (.cells #[.int .i64 z.s, .int .i64 z.c, .slice z.A z.f.length z.cap, .int .i64 z.p] 42) = W8 at S8 L8 hzf8 ⊢
          generalize W7.heap.size = gz at L8 hg8 hbb ⊢
          -- the state and the price
          have K8 := S8.now
          simp only [Ph.enc] at K8
          have d0 := K8.cell 0
          have d1 := K8.cell 1
          have d2 := K8.cell 2
          have d3 := K8.cell 3
          simp only [List.getElem?_cons_zero, List.getElem?_cons_succ] at d0 d1 d2 d3
          have fd0 := K8.frozen 0
          have fd1 := K8.frozen 1
          have fd2 := K8.frozen 2
          have fd3 := K8.frozen 3
          have e0 := L8.cell 0
          have e1 := L8.cell 1
          have e2 := L8.cell 2
          have e3 := L8.cell 3
          simp only [List.getElem?_cons_zero, List.getElem?_cons_succ] at e0 e1 e2 e3
          have gw : W8.grownBy ((W8.setCell ⟨gp, 0, none⟩ (.int .i64 z.s)).setCell ⟨gp, 3, none⟩ (.int .i64 z.p)) (some gp) := grown_set (grown_set (World.grownBy.refl _ _))
          have kw : Lies ((W8.setCell ⟨gp, 0, none⟩ (.int .i64 z.s)).setCell ⟨gp, 3, none⟩ (.int .i64 z.p)) gp 42 (Ph.enc { s := z.s, c := x.c, f := x.f, p := z.p, A := x.A, cap := x.cap }) := (K8.set 0 (.int .i64 z.s)).set 3 (.int .i64 z.p)
          have S9 := Lib.hid (S8.put gw kw S8.oy hgW hwW)
          have HL9 := Lib.hid (L8.kept gw (by intro e; injection e; omega))
          have HZ9 : Hid (IntsR ((W8.setCell ⟨gp, 0, none⟩ (.int .i64 z.s)).setCell ⟨gp, 3, none⟩ (.int .i64 z.p)) ((W8.setCell ⟨gp, 0, none⟩ (.int .i64 z.s)).setCell ⟨gp, 3, none⟩ (.int .i64 z.p)).heap.size z.A z.f) := SlcR.gr hzf8 HZN.out gw
          clear gw kw K8 S8 hzf8
          go_upto_region 11 with fail
          obtain ⟨W9, hW9⟩ : ∃ W9, (W8.setCell ⟨gp, 0, none⟩ (.int .i64 z.s)).setCell ⟨gp, 3, none⟩ (.int .i64 z.p) = W9 := ⟨_, rfl⟩
          rw [hW9] at S9 HL9 HZ9 ⊢
          clear hW9 d0 d1 d2 d3 fd0 fd1 fd2 fd3 e0 e1 e2 e3
          have S9 := S9.out; have L9 := HL9.out; have hz9r := HZ9.out
          clear HL9 HZ9
          have HO : Hid ((W9.alloc (.cells #[] 3)).ownsRow W9.heap.size 3 1 (.slice (some ⟨W9.heap.size, 0, none⟩) 0 0) 0 []) := owns_empty (Lies.new W9 3 #[]) (Nat.le_refl _)
          have b1 := (Below.refl W9.heap.size W9).alloc (Nat.le_refl _) (.cells #[] 3)
          have HR := Lib.hid (SlcR.below hz9r b1)
          have HB1 := Lib.hid b1
          have hb1s := b1.size
          have LA := L9.alloc (.cells #[] 3)
          have e0 := LA.cell 0
          have e1 := LA.cell 1
          have e2 := LA.cell 2
          have e3 := LA.cell 3
          simp only [List.getElem?_cons_zero, List.getElem?_cons_succ] at e0 e1 e2 e3
          have HS9 := Lib.hid S9
          have hB9 : B1 ≤ W9.heap.size := by have := S9.hb; have := S9.now.lt; omega
          have K9 := S9.now
          simp only [Ph.enc] at K9
          have d0 := K9.cell 0
          have d1 := K9.cell 1
          have d2 := K9.cell 2
          have d3 := K9.cell 3
          simp only [List.getElem?_cons_zero, List.getElem?_cons_succ] at d0 d1 d2 d3
          have fd0 := K9.frozen 0
          have fd1 := K9.frozen 1
          have fd2 := K9.frozen 2
          have fd3 := K9.frozen 3
          clear b1 S9 L9 LA K9 hz9r
          go_upto_region 12 with (at_builtin; refine wpList_cat rfl _ _ 36 rfl 3 (.int .i64 0) 1 8 Try.underlying36 infoI rfl (by omega) (by omega) W9.heap.size _ 0 [] rfl HO W9.heap.size z.A z.f.length z.cap (encIs z.f) rfl HR ints_one (by omega) hb1s ?_; intro v9 W10 hown _ hb2 _; obtain ⟨A9, c9, rfl⟩ := ownsRow_slice hown.out; have K10 := (HS9.out.below (HB1.out.trans hb2)).now; simp only [Ph.enc] at K10; have d0 := K10.cell 2; have fd0 := K10.frozen 2; simp only [List.getElem?_cons_zero, List.getElem?_cons_succ] at d0)
          have hown' : W10.ownsRow W9.heap.size 3 1 (.slice A9 z.f.length c9) z.f.length (encIs z.f) := by have := hown.out; simpa using this
          have SB := HS9.out.below (HB1.out.trans hb2)
          have gw : W10.grownBy (W10.setCell ⟨gp, 2, none⟩ (.slice A9 z.f.length c9)) (some gp) := grown_set (World.grownBy.refl _ _)
          have kw : Lies (W10.setCell ⟨gp, 2, none⟩ (.slice A9 z.f.length c9)) gp 42 (Ph.enc { s := z.s, c := x.c, f := z.f, p := z.p, A := A9, cap := c9 }) := K10.set 2 _
          have HSq := Lib.hid (SB.put gw kw ((OwnS.of hown').lower hB9) hgW hwW)
          obtain ⟨W11, hW11⟩ : ∃ W11, W10.setCell ⟨gp, 2, none⟩ (.slice A9 z.f.length c9) = W11 := ⟨_, rfl⟩
          rw [hW11] at HSq ⊢
          clear hW11 gw kw SB hown' K10 hown HS9 HB1 HR HO d0 d1 d2 d3 fd0 fd1 fd2 fd3 e0 e1 e2 e3 HZN hb1s hB9 hg8 hbb hb2 h0
          have K := HSq.out.now
          simp only [Ph.enc] at K
          have d0 := K.cell 0
          have d1 := K.cell 1
          have d2 := K.cell 2
          have d3 := K.cell 3
          simp only [List.getElem?_cons_zero, List.getElem?_cons_succ] at d0 d1 d2 d3
          have HO := Lib.hid HSq.out.own.row
          have hz := HSq.out.gr.size
          clear K
          go_wp2_with (at_builtin; refine wpList_push (w0 := W11) rfl _ _ 24 rfl 42 _ 4 48 Try.underlying24 infoPh rfl (by decide) (by omega) W.heap.size _ _ _ rfl HO #[.int .i64 z.s, .int .i64 x.c, .slice A9 z.f.length c9, .int .i64 z.p] 1 _ rfl (by first | rfl | exact Array.size_push _) rfl (by simp [Value.oneCell']) (by omega) hz rfl rfl rfl rfl ?_; intro v' W12 HO12 hg12 _)
          have HS12 := Lib.hid ((HSq.out.push (y := { s := z.s, c := x.c, f := z.f, p := z.p, A := A9, cap := c9 }) HO12.out hg12 hgW hwW).mono (show _ ≤ m + 10 + 120 * (6 - k) by omega))
          clear HSq HO HO12 hg12
          go_roundw
          case rel => exact ⟨k, l ++ [{ s := z.s, c := x.c, f := z.f, p := z.p, A := A9, cap := c9 }], by omega, by go_num, (by simp; omega), (by intro z hz; rcases List.mem_append.1 hz with h | h; exact H9.out z h; rw [List.mem_singleton] at h; subst h; exact hz9), HS12⟩
          case measure => simp [intOf] <;> omega
    · obtain rfl : k = 0 := by omega
      clear hlt
      have hi0 : ¬ (0 : Int) < ((0 : Nat) : Int) := by omega
      go_wp2_with fail
      refine (one_env HS.out.env 24 (by omega) (by omega)).mono ?_
      rintro e W4 ⟨q, rfl, E4, gr⟩
      have S4 := HS.out.next E4 gr hgW
      clear gr E4 HS
      cases q
      · have HS4 := Lib.hid (S4.mono (show _ ≤ m + 2000 by omega))
        clear S4
        go_wp2_with fail
        go_ret
        exact ⟨l, _, rfl, by omega, H9.out, HS4.out⟩
      · have S5 := DPs.fresh (W := W) S4.env S4.gr
        clear S4
        go_wp2_with fail
        generalize W4.alloc (.cells #[] 42) = W5 at S5 ⊢
        generalize (Value.slice (some ⟨W4.heap.size, 0, none⟩) 0 0) = v5 at S5 ⊢
        have HS := Lib.hid (S5.mono (show _ ≤ m + 10 + 120 * 6 + 10 + 4 * 0 by omega))
        clear S5 H9
        go_loopw [3, 8] (fun o i wr => ∃ (k : Nat) (l : List Ph), k ≤ 11 ∧ i = .int .i64 k ∧ l.length = k ∧ (∀ x ∈ l, x.f.length ≤ 9) ∧ Hid (DPs w W wr g A bs cap (m + 10 + 120 * 6 + 10 + 4 * k) l o)) (fun _ i _ => 14 - (intOf i).toNat)
        case atStart => exact ⟨0, [], by omega, rfl, rfl, by simp, HS⟩
        case round =>
          clear HS hl l
          obtain ⟨k, l, hk, rfl, hl, h9, HS⟩ := hrel
          have H9 := Lib.hid h9; clear h9
          have HLK := Lib.hid hl
          have hlk : l.length ≤ 11 := by omega
          clear hl
          obtain ⟨A6, c6, rfl⟩ := HS.out.own.form
          go_wp2_with fail
          refine (pick_env HS.out.env 2 (by omega) (by omega)).mono ?_
          rintro e W6 ⟨x, rfl, hx, E6, gr⟩
          have S6 := HS.out.next E6 gr hgW
          clear gr E6 HS
          have hw0 : IntKind.i64.wrap (10 + (x : Int)) = 10 + (x : Int) := IntWalk.i64_in _ (by omega)
          by_cases hlt : k < 10 + x
          · have hlt' : (k : Int) < 10 + (x : Int) := by omega
            have hw1 : IntKind.i64.wrap ((k : Int) + 1) = (k : Int) + 1 := IntWalk.i64_in _ (by omega)
            have hw2 : IntKind.i64.wrap (1 + (k : Int)) = 1 + (k : Int) := IntWalk.i64_in _ (by omega)
            have hm3 : (k : Int).tmod 3 = (k : Int) % 3 := Int.tmod_eq_emod_of_nonneg (by omega)
            have hw3 : IntKind.i64.wrap ((k : Int) % 3) = (k : Int) % 3 := IntWalk.i64_in _ (by omega)
            have hw4 : IntKind.i64.wrap (1 + (k : Int) % 3) = 1 + (k : Int) % 3 := IntWalk.i64_in _ (by omega)
            have HO := Lib.hid S6.own.row
            have hz := S6.gr.size
            have HS6 := Lib.hid S6
            have hlt2 := Lib.hid hlt
            clear S6 hlt
            go_upto_region 17 with (at_builtin; refine wpList_push (w0 := W6) rfl _ _ 24 rfl 42 _ 4 48 Try.underlying24 infoPh rfl (by decide) (by omega) W.heap.size _ _ _ rfl HO #[.int .i64 (1 + (k : Int) % 3), .int .i64 (1 + (k : Int)), .slice none 0 0, .int .i64 (k : Int)] 1 _ rfl (by first | rfl | exact Array.size_push _) rfl (by simp [Value.oneCell']) (by omega) hz rfl rfl rfl rfl ?_; intro v' W12 HO12 hg12 _)
            have HS12 := Lib.hid ((HS6.out.pushN (y := { s := 1 + (k : Int) % 3, c := 1 + (k : Int), f := [], p := (k : Int), A := none, cap := 0 }) rfl rfl HO12.out hg12 hgW hwW).mono (show _ ≤ m + 10 + 120 * 6 + 10 + 4 * (k + 1) by omega))
            clear HS6 HO HO12 hg12 hw0 hw2 hm3 hw3 hw4
            go_wp2_with fail
            go_roundw
            case rel => exact ⟨k + 1, l ++ [{ s := 1 + (k : Int) % 3, c := 1 + (k : Int), f := [], p := (k : Int), A := none, cap := 0 }], (by have := hlt2.out; omega), by go_num, (by have := HLK.out; simp; omega), (by intro z hz; rcases List.mem_append.1 hz with h | h; exact H9.out z h; rw [List.mem_singleton] at h; subst h; simp), HS12⟩
            case measure => simp [intOf] <;> omega
          · have hlt' : ¬ (k : Int) < 10 + (x : Int) := by omega
            have HS6 := Lib.hid (S6.mono (show _ ≤ m + 2000 by omega))
            clear S6 hlt
            go_wp2_with fail
            go_ret
            exact ⟨l, _, rfl, by omega, H9.out, HS6.out⟩

theorem drawList_any (A : Option Addr) (cap : Nat) (bs : List UInt8) (w : World) (hr : BytesR w w.heap.size A bs) :
    Calls Try.prog 41 #[.slice A bs.length cap] w fun e w' => ∃ (l : List Ph) (A' : Option Addr) (c' : Nat), e = .returned (.slice A' l.length c') ∧ PhsR w' w'.heap.size A' l ∧ l.length ≤ 13 ∧ (∀ x ∈ l, x.f.length ≤ 9) ∧ Below w.heap.size w w' := by
  have E1 := cur_start (cap := cap) hr
  have b1 : Below w.heap.size w (w.alloc (.cells #[.slice A bs.length cap, .int .i64 0, .int .u64 0] 63)) := (Below.refl w.heap.size w).alloc (Nat.le_refl _) (.cells #[.slice A bs.length cap, .int .i64 0, .int .u64 0] 63)
  go_enter Try.func41, Try.ntmps41
  go_wp2_with fail
  generalize w.alloc (.cells #[.slice A bs.length cap, .int .i64 0, .int .u64 0] 63) = W1 at E1 b1 ⊢
  refine (phrases30_any w.heap.size A bs cap 0 W1 W1 (by omega) E1).mono ?_
  rintro e W2 ⟨l, v, rfl, hl, h9, S2⟩
  obtain ⟨A', c', rfl⟩ := S2.own.form
  have HR : Hid (PhsR W2 W2.heap.size A' l) := S2.own.reads
  have HB : Hid (Below w.heap.size w W2) := grown_belowR (grown_trans (grownAny b1 (some w.heap.size)) S2.gr) (Nat.le_refl _)
  clear S2 E1 b1
  go_wp2_with fail
  go_ret
  exact ⟨l, A', c', rfl, HR.out, hl, h9, HB.out⟩
theorem drawMerge_any (A : Option Addr) (cap : Nat) (bs : List UInt8) (w : World) (hr : BytesR w w.heap.size A bs) :
    Calls Try.prog 13 #[.slice A bs.length cap] w fun e w' => ∃ (l : List Ph) (A' : Option Addr) (c' : Nat), e = .returned (.slice A' l.length c') ∧ PhsR w' w'.heap.size A' l ∧ l.length ≤ 13 ∧ (∀ x ∈ l, x.f.length ≤ 9) ∧ Below w.heap.size w w' := by
  go_enter Try.func13, Try.ntmps13
  go_wp2_with fail
  refine (drawList_any A cap bs w hr).mono ?_
  rintro e W2 ⟨l, A', c', rfl, h1, h2, h3, h4⟩
  have HR := Lib.hid h1
  have HB := Lib.hid h4
  clear h1 h4
  go_wp2_with fail
  go_ret
  exact ⟨l, A', c', rfl, HR.out, h2, h3, HB.out⟩
end Go.Proofs.Ytchkjiadnackaaa

/- Sums over phrases: WorthOf, CleanCopies, CountState, in the reference and in the program. (Printed by gen_phrsum.py) -/
namespace Go.Proofs.Ytchkjiadnackaaa
open Go.RowKit

def sumFrom (f : Ph → Int) : Int → List Ph → Int
  | a, [] => a
  | a, x :: l => sumFrom f (a + f x) l
theorem sum_step {l : List Ph} {k : Nat} (h : k < l.length) (f : Ph → Int) (a : Int) : sumFrom f a (l.drop k) = sumFrom f (a + f l[k]) (l.drop (k + 1)) := by
  rw [List.drop_eq_getElem_cons h]; rfl
theorem sum_ph {f : Ph → Int} (hf : ∀ x y : Ph, x.ph = y.ph → f x = f y) : ∀ {a b : List Ph} (s : Int), a.map Ph.ph = b.map Ph.ph → sumFrom f s a = sumFrom f s b
  | [], [], _, _ => rfl
  | [], _ :: _, _, h => by simp at h
  | _ :: _, [], _, h => by simp at h
  | x :: a, y :: b, s, h => by
    simp only [List.map_cons, List.cons.injEq] at h
    rw [sumFrom, sumFrom, hf x y h.1]; exact sum_ph hf _ h.2
def worthV (x : Ph) : Int := x.c * x.p
def cleanV (x : Ph) : Int := if x.f.length = 0 then x.c else 0
def stateV (st : Int) (x : Ph) : Int := if x.s = st then x.c else 0
theorem worthV_ph (x y : Ph) (h : x.ph = y.ph) : worthV x = worthV y := by
  unfold Ph.ph at h; injection h with h1 h2; injection h2 with h2 h3; injection h3 with h3 h4; unfold worthV; rw [h2, h4]
theorem cleanV_ph (x y : Ph) (h : x.ph = y.ph) : cleanV x = cleanV y := by
  unfold Ph.ph at h; injection h with h1 h2; injection h2 with h2 h3; injection h3 with h3 h4; unfold cleanV; rw [h2, h3]
theorem stateV_ph (st : Int) (x y : Ph) (h : x.ph = y.ph) : stateV st x = stateV st y := by
  unfold Ph.ph at h; injection h with h1 h2; injection h2 with h2 h3; injection h3 with h3 h4; unfold stateV; rw [h1, h2]
theorem worthV_bd {x : Ph} (h : x.ok = true) : 0 ≤ x.c * x.p ∧ x.c * x.p ≤ 98999901 := by
  obtain ⟨_, ⟨h1, h2⟩, _, h3, h4⟩ := Ph.bounds h
  refine ⟨Int.mul_nonneg (by omega) h3, ?_⟩
  have := Int.mul_le_mul h2 h4 h3 (by omega : (0 : Int) ≤ 99)
  omega
def okOf (g : Bool) (v : Int) : Int := if g then v else 0

set_option maxHeartbeats 1000000 in
theorem specWorthOf_any (A : Option Addr) (c : Nat) (l : List Ph) (w : World) (h : PhsR w w.heap.size A l) :
    Calls Try.prog 18 #[.slice A l.length c] w fun e w' => e = .returned (.tuple #[.int .i64 (okOf (goodPhs l) (sumFrom worthV 0 l)), .bool (goodPhs l)]) ∧ Below w.heap.size w w' := by
  have hl := h.slc.big
  have hrd := h.ph
  cases hg : goodPhs l
  · have HG := Lib.hid hg; clear hg hrd
    go_enter Try.func18, Try.ntmps18
    go_wp2_with (go_at_call 28; refine (l30Good_any A c l _ h).mono ?_; rw [HG.out]; rintro e w1 ⟨rfl, hb1⟩)
    go_ret2
    exact ⟨rfl, hb1⟩
  · skip
    have h10 := good_len hg
    have HA : Hid (∀ i (hi : i < l.length), l[i].ok = true) := fun i hi => good_at hg hi
    have HG := Lib.hid hg; clear hg
    have HS0 : Hid (sumFrom worthV 0 (l.drop 0) = sumFrom worthV 0 l) := rfl
    go_enter Try.func18, Try.ntmps18
    go_wp2_with (go_at_call 28; refine (l30Good_any A c l _ h).mono ?_; rw [HG.out]; rintro e w1 ⟨rfl, hb1⟩)
    go_loopw [4, 5] (fun s i wr => ∃ (k : Nat) (t : Int), k ≤ l.length ∧ i = .int .i64 k ∧ s = .int .i64 t ∧ (0 ≤ t ∧ t ≤ 98999901 * (k : Int)) ∧ (∃ q : Since w.heap.size w, wr = q.val) ∧ Hid (sumFrom worthV t (l.drop k) = sumFrom worthV 0 l)) (fun _ i _ => l.length - (intOf i).toNat)
    case atStart => exact ⟨0, 0, Nat.zero_le _, rfl, rfl, by omega, ⟨⟨_, hb1⟩, rfl⟩, HS0⟩
    case round =>
      clear hb1
      obtain ⟨k, t, hk, rfl, rfl, ⟨t0, t1⟩, ⟨q, rfl⟩, HR⟩ := hrel
      by_cases hlt : k < l.length
      · obtain ⟨b, off, rfl, hb, hcell⟩ := hrd (by omega)
        obtain ⟨c0, c1, c2, c3⟩ := hcell k hlt
        have hxo := HA.out k hlt
        have HS : Hid (sumFrom worthV t (l.drop k) = sumFrom worthV (t + worthV l[k]) (l.drop (k + 1))) := sum_step hlt _ _
        obtain ⟨x, hxe⟩ : ∃ x, x = l[k] := ⟨_, rfl⟩
        rw [← hxe] at c0 c1 c2 c3 hxo HS
        clear hxe hcell hrd
        obtain ⟨m1, m2⟩ := worthV_bd hxo
        obtain ⟨⟨xs1, xs2⟩, ⟨xc1, xc2⟩, _, xp1, xp2⟩ := Ph.bounds hxo
        clear hxo
        have hm : IntKind.i64.wrap (x.c * x.p) = x.c * x.p := IntWalk.i64_in _ (by omega)
        have ha : IntKind.i64.wrap (t + x.c * x.p) = t + x.c * x.p := IntWalk.i64_in _ (by omega)
        go_wp2
        refine wp_region_since _ (by kernel_rfl) (by kernel_rfl) ?_
        repeat (any_goals (first | go_big_quiet_step ((fail)) | (refine wpQuiet_step (fun K hK => ?_); go_simp; split <;> (refine hK _ ?_; clear hK K))))
        all_goals (refine wpQuiet_nil ?_; rintro _ ⟨q1, rfl⟩)
        go_wp2
        go_roundw
        case rel => exact ⟨k + 1, t + x.c * x.p, by omega, by go_num, rfl, by omega, ⟨q1, rfl⟩, Lib.hid (by have h1 := HR.out; rw [HS.out] at h1; exact h1)⟩
        case measure => simp [intOf]; omega
      · have HE : Hid (t = sumFrom worthV 0 l) := by
          have h1 := HR.out; rw [List.drop_eq_nil_of_le (by omega)] at h1; exact h1
        clear hrd
        go_wp2
        go_ret2
        exact ⟨by rw [← HE.out]; rfl, q.below⟩

set_option maxHeartbeats 1000000 in
theorem implWorthOf_any (A : Option Addr) (c : Nat) (l : List Ph) (w : World) (h : PhsR w w.heap.size A l) :
    Calls Try.prog 17 #[.slice A l.length c] w fun e w' => e = .returned (.tuple #[.int .i64 (okOf (goodPhs l) (sumFrom worthV 0 l)), .bool (goodPhs l)]) ∧ Below w.heap.size w w' := by
  have hl := h.slc.big
  have hrd := h.ph
  cases hg : goodPhs l
  · have HG := Lib.hid hg; clear hg hrd
    go_enter Try.func17, Try.ntmps17
    go_wp2_with (go_at_call 32; refine (arePhrases_any A c l _ h).mono ?_; rw [HG.out]; rintro e w1 ⟨rfl, hb1⟩)
    go_ret2
    exact ⟨rfl, hb1⟩
  · skip
    have h10 := good_len hg
    have HA : Hid (∀ i (hi : i < l.length), l[i].ok = true) := fun i hi => good_at hg hi
    have HG := Lib.hid hg; clear hg
    have HS0 : Hid (sumFrom worthV 0 (l.drop 0) = sumFrom worthV 0 l) := rfl
    go_enter Try.func17, Try.ntmps17
    go_wp2_with (go_at_call 32; refine (arePhrases_any A c l _ h).mono ?_; rw [HG.out]; rintro e w1 ⟨rfl, hb1⟩)
    go_loopw [4, 12] (fun s i wr => ∃ (k : Nat) (t : Int), k ≤ l.length ∧ i = .int .i64 k ∧ s = .int .i64 t ∧ (0 ≤ t ∧ t ≤ 98999901 * (k : Int)) ∧ (∃ q : Since w.heap.size w, wr = q.val) ∧ Hid (sumFrom worthV t (l.drop k) = sumFrom worthV 0 l)) (fun _ i _ => l.length - (intOf i).toNat)
    case atStart => exact ⟨0, 0, Nat.zero_le _, rfl, rfl, by omega, ⟨⟨_, hb1⟩, rfl⟩, HS0⟩
    case round =>
      clear hb1
      obtain ⟨k, t, hk, rfl, rfl, ⟨t0, t1⟩, ⟨q, rfl⟩, HR⟩ := hrel
      by_cases hlt : k < l.length
      · obtain ⟨b, off, rfl, hb, hcell⟩ := hrd (by omega)
        obtain ⟨c0, c1, c2, c3⟩ := hcell k hlt
        have hxo := HA.out k hlt
        have HS : Hid (sumFrom worthV t (l.drop k) = sumFrom worthV (t + worthV l[k]) (l.drop (k + 1))) := sum_step hlt _ _
        obtain ⟨x, hxe⟩ : ∃ x, x = l[k] := ⟨_, rfl⟩
        rw [← hxe] at c0 c1 c2 c3 hxo HS
        clear hxe hcell hrd
        obtain ⟨m1, m2⟩ := worthV_bd hxo
        obtain ⟨⟨xs1, xs2⟩, ⟨xc1, xc2⟩, _, xp1, xp2⟩ := Ph.bounds hxo
        clear hxo
        have hm : IntKind.i64.wrap (x.c * x.p) = x.c * x.p := IntWalk.i64_in _ (by omega)
        have ha : IntKind.i64.wrap (t + x.c * x.p) = t + x.c * x.p := IntWalk.i64_in _ (by omega)
        go_wp2
        go_roundw
        case rel => exact ⟨k + 1, t + x.c * x.p, by omega, by go_num, rfl, by omega, ⟨⟨_, q.below.alloc q.size _⟩, rfl⟩, Lib.hid (by have h1 := HR.out; rw [HS.out] at h1; exact h1)⟩
        case measure => simp [intOf]; omega
      · have HE : Hid (t = sumFrom worthV 0 l) := by
          have h1 := HR.out; rw [List.drop_eq_nil_of_le (by omega)] at h1; exact h1
        clear hrd
        go_wp2
        go_ret2
        exact ⟨by rw [← HE.out]; rfl, q.below⟩

set_option maxHeartbeats 1000000 in
theorem specCleanCopies_any (A : Option Addr) (c : Nat) (l : List Ph) (w : World) (h : PhsR w w.heap.size A l) :
    Calls Try.prog 23 #[.slice A l.length c] w fun e w' => e = .returned (.tuple #[.int .i64 (okOf (goodPhs l) (sumFrom cleanV 0 l)), .bool (goodPhs l)]) ∧ Below w.heap.size w w' := by
  have hl := h.slc.big
  have hrd := h.ph
  cases hg : goodPhs l
  · have HG := Lib.hid hg; clear hg hrd
    go_enter Try.func23, Try.ntmps23
    go_wp2_with (go_at_call 28; refine (l30Good_any A c l _ h).mono ?_; rw [HG.out]; rintro e w1 ⟨rfl, hb1⟩)
    go_ret2
    exact ⟨rfl, hb1⟩
  · skip
    have h10 := good_len hg
    have HA : Hid (∀ i (hi : i < l.length), l[i].ok = true) := fun i hi => good_at hg hi
    have HG := Lib.hid hg; clear hg
    have HS0 : Hid (sumFrom cleanV 0 (l.drop 0) = sumFrom cleanV 0 l) := rfl
    go_enter Try.func23, Try.ntmps23
    go_wp2_with (go_at_call 28; refine (l30Good_any A c l _ h).mono ?_; rw [HG.out]; rintro e w1 ⟨rfl, hb1⟩)
    go_loopw [4, 5] (fun s i wr => ∃ (k : Nat) (t : Int), k ≤ l.length ∧ i = .int .i64 k ∧ s = .int .i64 t ∧ (0 ≤ t ∧ t ≤ 99 * (k : Int)) ∧ (∃ q : Since w.heap.size w, wr = q.val) ∧ Hid (sumFrom cleanV t (l.drop k) = sumFrom cleanV 0 l)) (fun _ i _ => l.length - (intOf i).toNat)
    case atStart => exact ⟨0, 0, Nat.zero_le _, rfl, rfl, by omega, ⟨⟨_, hb1⟩, rfl⟩, HS0⟩
    case round =>
      clear hb1
      obtain ⟨k, t, hk, rfl, rfl, ⟨t0, t1⟩, ⟨q, rfl⟩, HR⟩ := hrel
      by_cases hlt : k < l.length
      · obtain ⟨b, off, rfl, hb, hcell⟩ := hrd (by omega)
        obtain ⟨c0, c1, c2, c3⟩ := hcell k hlt
        have hxo := HA.out k hlt
        have HS : Hid (sumFrom cleanV t (l.drop k) = sumFrom cleanV (t + cleanV l[k]) (l.drop (k + 1))) := sum_step hlt _ _
        obtain ⟨x, hxe⟩ : ∃ x, x = l[k] := ⟨_, rfl⟩
        rw [← hxe] at c0 c1 c2 c3 hxo HS
        clear hxe hcell hrd
        obtain ⟨m1, m2⟩ := worthV_bd hxo
        obtain ⟨⟨xs1, xs2⟩, ⟨xc1, xc2⟩, _, xp1, xp2⟩ := Ph.bounds hxo
        clear hxo
        have ha : IntKind.i64.wrap (t + x.c) = t + x.c := IntWalk.i64_in _ (by omega)
        by_cases hz : x.f.length = 0
        · have HE : Hid (cleanV x = x.c) := by unfold Hid cleanV; rw [if_pos hz]
          have hv : ((x.f.length : Int) == 0) = true := by simp [hz]
          clear hz
          go_wp2
          go_roundw
          case rel => exact ⟨k + 1, t + x.c, by omega, by go_num, rfl, by omega, ⟨q, rfl⟩, Lib.hid (by have h1 := HR.out; rw [HS.out, HE.out] at h1; exact h1)⟩
          case measure => simp [intOf]; omega
        · have HE : Hid (cleanV x = 0) := by unfold Hid cleanV; rw [if_neg hz]
          have hv : ((x.f.length : Int) == 0) = false := by simp [hz]
          clear hz
          go_wp2
          go_roundw
          case rel => exact ⟨k + 1, t, by omega, by go_num, rfl, by omega, ⟨q, rfl⟩, Lib.hid (by have h1 := HR.out; rw [HS.out, HE.out, Int.add_zero] at h1; exact h1)⟩
          case measure => simp [intOf]; omega
      · have HE : Hid (t = sumFrom cleanV 0 l) := by
          have h1 := HR.out; rw [List.drop_eq_nil_of_le (by omega)] at h1; exact h1
        clear hrd
        go_wp2
        go_ret2
        exact ⟨by rw [← HE.out]; rfl, q.below⟩

set_option maxHeartbeats 1000000 in
theorem implCleanCopies_any (A : Option Addr) (c : Nat) (l : List Ph) (w : World) (h : PhsR w w.heap.size A l) :
    Calls Try.prog 22 #[.slice A l.length c] w fun e w' => e = .returned (.tuple #[.int .i64 (okOf (goodPhs l) (sumFrom cleanV 0 l)), .bool (goodPhs l)]) ∧ Below w.heap.size w w' := by
  have hl := h.slc.big
  have hrd := h.ph
  cases hg : goodPhs l
  · have HG := Lib.hid hg; clear hg hrd
    go_enter Try.func22, Try.ntmps22
    go_wp2_with (go_at_call 32; refine (arePhrases_any A c l _ h).mono ?_; rw [HG.out]; rintro e w1 ⟨rfl, hb1⟩)
    go_ret2
    exact ⟨rfl, hb1⟩
  · skip
    have h10 := good_len hg
    have HA : Hid (∀ i (hi : i < l.length), l[i].ok = true) := fun i hi => good_at hg hi
    have HG := Lib.hid hg; clear hg
    have HS0 : Hid (sumFrom cleanV 0 (l.drop 0) = sumFrom cleanV 0 l) := rfl
    go_enter Try.func22, Try.ntmps22
    go_wp2_with (go_at_call 32; refine (arePhrases_any A c l _ h).mono ?_; rw [HG.out]; rintro e w1 ⟨rfl, hb1⟩)
    go_loopw [4, 12] (fun s i wr => ∃ (k : Nat) (t : Int), k ≤ l.length ∧ i = .int .i64 k ∧ s = .int .i64 t ∧ (0 ≤ t ∧ t ≤ 99 * (k : Int)) ∧ (∃ q : Since w.heap.size w, wr = q.val) ∧ Hid (sumFrom cleanV t (l.drop k) = sumFrom cleanV 0 l)) (fun _ i _ => l.length - (intOf i).toNat)
    case atStart => exact ⟨0, 0, Nat.zero_le _, rfl, rfl, by omega, ⟨⟨_, hb1⟩, rfl⟩, HS0⟩
    case round =>
      clear hb1
      obtain ⟨k, t, hk, rfl, rfl, ⟨t0, t1⟩, ⟨q, rfl⟩, HR⟩ := hrel
      by_cases hlt : k < l.length
      · obtain ⟨b, off, rfl, hb, hcell⟩ := hrd (by omega)
        obtain ⟨c0, c1, c2, c3⟩ := hcell k hlt
        have hxo := HA.out k hlt
        have HS : Hid (sumFrom cleanV t (l.drop k) = sumFrom cleanV (t + cleanV l[k]) (l.drop (k + 1))) := sum_step hlt _ _
        obtain ⟨x, hxe⟩ : ∃ x, x = l[k] := ⟨_, rfl⟩
        rw [← hxe] at c0 c1 c2 c3 hxo HS
        clear hxe hcell hrd
        obtain ⟨m1, m2⟩ := worthV_bd hxo
        obtain ⟨⟨xs1, xs2⟩, ⟨xc1, xc2⟩, _, xp1, xp2⟩ := Ph.bounds hxo
        clear hxo
        have ha : IntKind.i64.wrap (t + x.c) = t + x.c := IntWalk.i64_in _ (by omega)
        by_cases hz : x.f.length = 0
        · have HE : Hid (cleanV x = x.c) := by unfold Hid cleanV; rw [if_pos hz]
          have hv : ((x.f.length : Int) == 0) = true := by simp [hz]
          clear hz
          go_wp2
          go_roundw
          case rel => exact ⟨k + 1, t + x.c, by omega, by go_num, rfl, by omega, ⟨⟨_, q.below.alloc q.size _⟩, rfl⟩, Lib.hid (by have h1 := HR.out; rw [HS.out, HE.out] at h1; exact h1)⟩
          case measure => simp [intOf]; omega
        · have HE : Hid (cleanV x = 0) := by unfold Hid cleanV; rw [if_neg hz]
          have hv : ((x.f.length : Int) == 0) = false := by simp [hz]
          clear hz
          go_wp2
          go_roundw
          case rel => exact ⟨k + 1, t, by omega, by go_num, rfl, by omega, ⟨⟨_, q.below.alloc q.size _⟩, rfl⟩, Lib.hid (by have h1 := HR.out; rw [HS.out, HE.out, Int.add_zero] at h1; exact h1)⟩
          case measure => simp [intOf]; omega
      · have HE : Hid (t = sumFrom cleanV 0 l) := by
          have h1 := HR.out; rw [List.drop_eq_nil_of_le (by omega)] at h1; exact h1
        clear hrd
        go_wp2
        go_ret2
        exact ⟨by rw [← HE.out]; rfl, q.below⟩

set_option maxHeartbeats 1000000 in
theorem specCountState_any (A : Option Addr) (c : Nat) (l : List Ph) (st : Int) (w : World) (h : PhsR w w.heap.size A l) :
    Calls Try.prog 26 #[.slice A l.length c, .int .i64 st] w fun e w' => e = .returned (.tuple #[.int .i64 (okOf (goodPhs l && inR st 1 3) (sumFrom (stateV st) 0 l)), .bool (goodPhs l && inR st 1 3)]) ∧ Below w.heap.size w w' := by
  have hl := h.slc.big
  have hrd := h.ph
  cases hg : goodPhs l
  · have HG := Lib.hid hg; clear hg hrd
    go_enter Try.func26, Try.ntmps26
    go_wp2_with (go_at_call 28; refine (l30Good_any A c l _ h).mono ?_; rw [HG.out]; rintro e w1 ⟨rfl, hb1⟩)
    go_ret2
    exact ⟨rfl, hb1⟩
  · cases hi : inR st 1 3
    · have HG := Lib.hid hg; clear hg hrd
      have HI := Lib.hid hi; clear hi
      go_enter Try.func26, Try.ntmps26
      go_wp2_with (first | (go_at_call 28; refine (l30Good_any A c l _ h).mono ?_; rw [HG.out]; rintro e w1 ⟨rfl, hb1⟩) | (go_at_call 51; refine (l1In_any _ _ _ _).mono ?_; rw [HI.out]; rintro e w2 ⟨rfl, rfl⟩))
      go_ret2
      exact ⟨rfl, hb1⟩
    · have HI := Lib.hid hi; clear hi
      have h10 := good_len hg
      have HA : Hid (∀ i (hi : i < l.length), l[i].ok = true) := fun i hi => good_at hg hi
      have HG := Lib.hid hg; clear hg
      have HS0 : Hid (sumFrom (stateV st) 0 (l.drop 0) = sumFrom (stateV st) 0 l) := rfl
      go_enter Try.func26, Try.ntmps26
      go_wp2_with (first | (go_at_call 28; refine (l30Good_any A c l _ h).mono ?_; rw [HG.out]; rintro e w1 ⟨rfl, hb1⟩) | (go_at_call 51; refine (l1In_any _ _ _ _).mono ?_; rw [HI.out]; rintro e w2 ⟨rfl, rfl⟩))
      go_loopw [6, 7] (fun s i wr => ∃ (k : Nat) (t : Int), k ≤ l.length ∧ i = .int .i64 k ∧ s = .int .i64 t ∧ (0 ≤ t ∧ t ≤ 99 * (k : Int)) ∧ (∃ q : Since w.heap.size w, wr = q.val) ∧ Hid (sumFrom (stateV st) t (l.drop k) = sumFrom (stateV st) 0 l)) (fun _ i _ => l.length - (intOf i).toNat)
      case atStart => exact ⟨0, 0, Nat.zero_le _, rfl, rfl, by omega, ⟨⟨_, hb1⟩, rfl⟩, HS0⟩
      case round =>
        clear hb1
        obtain ⟨k, t, hk, rfl, rfl, ⟨t0, t1⟩, ⟨q, rfl⟩, HR⟩ := hrel
        by_cases hlt : k < l.length
        · obtain ⟨b, off, rfl, hb, hcell⟩ := hrd (by omega)
          obtain ⟨c0, c1, c2, c3⟩ := hcell k hlt
          have hxo := HA.out k hlt
          have HS : Hid (sumFrom (stateV st) t (l.drop k) = sumFrom (stateV st) (t + (stateV st) l[k]) (l.drop (k + 1))) := sum_step hlt _ _
          obtain ⟨x, hxe⟩ : ∃ x, x = l[k] := ⟨_, rfl⟩
          rw [← hxe] at c0 c1 c2 c3 hxo HS
          clear hxe hcell hrd
          obtain ⟨m1, m2⟩ := worthV_bd hxo
          obtain ⟨⟨xs1, xs2⟩, ⟨xc1, xc2⟩, _, xp1, xp2⟩ := Ph.bounds hxo
          clear hxo
          have ha : IntKind.i64.wrap (t + x.c) = t + x.c := IntWalk.i64_in _ (by omega)
          by_cases hz : x.s = st
          · have HE : Hid ((stateV st) x = x.c) := by unfold Hid stateV; rw [if_pos hz]
            have hv : (x.s == st) = true := by simp [hz]
            clear hz
            go_wp2
            go_roundw
            case rel => exact ⟨k + 1, t + x.c, by omega, by go_num, rfl, by omega, ⟨q, rfl⟩, Lib.hid (by have h1 := HR.out; rw [HS.out, HE.out] at h1; exact h1)⟩
            case measure => simp [intOf]; omega
          · have HE : Hid ((stateV st) x = 0) := by unfold Hid stateV; rw [if_neg hz]
            have hv : (x.s == st) = false := by simp [hz]
            clear hz
            go_wp2
            go_roundw
            case rel => exact ⟨k + 1, t, by omega, by go_num, rfl, by omega, ⟨q, rfl⟩, Lib.hid (by have h1 := HR.out; rw [HS.out, HE.out, Int.add_zero] at h1; exact h1)⟩
            case measure => simp [intOf]; omega
        · have HE : Hid (t = sumFrom (stateV st) 0 l) := by
            have h1 := HR.out; rw [List.drop_eq_nil_of_le (by omega)] at h1; exact h1
          clear hrd
          go_wp2
          go_ret2
          exact ⟨by rw [← HE.out]; rfl, q.below⟩

set_option maxHeartbeats 1000000 in
theorem implCountState_any (A : Option Addr) (c : Nat) (l : List Ph) (st : Int) (w : World) (h : PhsR w w.heap.size A l) :
    Calls Try.prog 24 #[.slice A l.length c, .int .i64 st] w fun e w' => e = .returned (.tuple #[.int .i64 (okOf (goodPhs l && inR st 1 3) (sumFrom (stateV st) 0 l)), .bool (goodPhs l && inR st 1 3)]) ∧ Below w.heap.size w w' := by
  have hl := h.slc.big
  have hrd := h.ph
  cases hg : goodPhs l
  · have HG := Lib.hid hg; clear hg hrd
    go_enter Try.func24, Try.ntmps24
    go_wp2_with (go_at_call 32; refine (arePhrases_any A c l _ h).mono ?_; rw [HG.out]; rintro e w1 ⟨rfl, hb1⟩)
    go_ret2
    exact ⟨rfl, hb1⟩
  · cases hi : inR st 1 3
    · have HG := Lib.hid hg; clear hg hrd
      have HI := Lib.hid hi; clear hi
      go_enter Try.func24, Try.ntmps24
      go_wp2_with (first | (go_at_call 32; refine (arePhrases_any A c l _ h).mono ?_; rw [HG.out]; rintro e w1 ⟨rfl, hb1⟩) | (go_at_call 47; refine (inRange_any _ _ _ _).mono ?_; rw [HI.out]; rintro e w2 ⟨rfl, rfl⟩))
      go_ret2
      exact ⟨rfl, hb1⟩
    · have HI := Lib.hid hi; clear hi
      have h10 := good_len hg
      have HA : Hid (∀ i (hi : i < l.length), l[i].ok = true) := fun i hi => good_at hg hi
      have HG := Lib.hid hg; clear hg
      have HS0 : Hid (sumFrom (stateV st) 0 (l.drop 0) = sumFrom (stateV st) 0 l) := rfl
      go_enter Try.func24, Try.ntmps24
      go_wp2_with (first | (go_at_call 32; refine (arePhrases_any A c l _ h).mono ?_; rw [HG.out]; rintro e w1 ⟨rfl, hb1⟩) | (go_at_call 47; refine (inRange_any _ _ _ _).mono ?_; rw [HI.out]; rintro e w2 ⟨rfl, rfl⟩))
      go_loopw [6, 19] (fun s i wr => ∃ (k : Nat) (t : Int), k ≤ l.length ∧ i = .int .i64 k ∧ s = .int .i64 t ∧ (0 ≤ t ∧ t ≤ 99 * (k : Int)) ∧ (∃ q : Since w.heap.size w, wr = q.val) ∧ Hid (sumFrom (stateV st) t (l.drop k) = sumFrom (stateV st) 0 l)) (fun _ i _ => l.length - (intOf i).toNat)
      case atStart => exact ⟨0, 0, Nat.zero_le _, rfl, rfl, by omega, ⟨⟨_, hb1⟩, rfl⟩, HS0⟩
      case round =>
        clear hb1
        obtain ⟨k, t, hk, rfl, rfl, ⟨t0, t1⟩, ⟨q, rfl⟩, HR⟩ := hrel
        by_cases hlt : k < l.length
        · obtain ⟨b, off, rfl, hb, hcell⟩ := hrd (by omega)
          obtain ⟨c0, c1, c2, c3⟩ := hcell k hlt
          have hxo := HA.out k hlt
          have HS : Hid (sumFrom (stateV st) t (l.drop k) = sumFrom (stateV st) (t + (stateV st) l[k]) (l.drop (k + 1))) := sum_step hlt _ _
          obtain ⟨x, hxe⟩ : ∃ x, x = l[k] := ⟨_, rfl⟩
          rw [← hxe] at c0 c1 c2 c3 hxo HS
          clear hxe hcell hrd
          obtain ⟨m1, m2⟩ := worthV_bd hxo
          obtain ⟨⟨xs1, xs2⟩, ⟨xc1, xc2⟩, _, xp1, xp2⟩ := Ph.bounds hxo
          clear hxo
          have ha : IntKind.i64.wrap (t + x.c) = t + x.c := IntWalk.i64_in _ (by omega)
          by_cases hz : x.s = st
          · have HE : Hid ((stateV st) x = x.c) := by unfold Hid stateV; rw [if_pos hz]
            have hv : (x.s == st) = true := by simp [hz]
            clear hz
            go_wp2
            go_roundw
            case rel => exact ⟨k + 1, t + x.c, by omega, by go_num, rfl, by omega, ⟨⟨_, q.below.alloc q.size _⟩, rfl⟩, Lib.hid (by have h1 := HR.out; rw [HS.out, HE.out] at h1; exact h1)⟩
            case measure => simp [intOf]; omega
          · have HE : Hid ((stateV st) x = 0) := by unfold Hid stateV; rw [if_neg hz]
            have hv : (x.s == st) = false := by simp [hz]
            clear hz
            go_wp2
            go_roundw
            case rel => exact ⟨k + 1, t, by omega, by go_num, rfl, by omega, ⟨⟨_, q.below.alloc q.size _⟩, rfl⟩, Lib.hid (by have h1 := HR.out; rw [HS.out, HE.out, Int.add_zero] at h1; exact h1)⟩
            case measure => simp [intOf]; omega
        · have HE : Hid (t = sumFrom (stateV st) 0 l) := by
            have h1 := HR.out; rw [List.drop_eq_nil_of_le (by omega)] at h1; exact h1
          clear hrd
          go_wp2
          go_ret2
          exact ⟨by rw [← HE.out]; rfl, q.below⟩
end Go.Proofs.Ytchkjiadnackaaa

/- Marks on a list of phrases of the call's own. -/
namespace Go.Proofs.Ytchkjiadnackaaa
open Go.RowKit

theorem fsum_take {l : List Ph} {k : Nat} (h : k < l.length) : fsum (l.take (k + 1)) = fsum (l.take k) + l[k].f.length := by
  induction l generalizing k with
  | nil => simp at h
  | cons x l ih =>
    cases k with
    | zero => simp [fsum]
    | succ k =>
      have := ih (k := k) (by simpa using h)
      simp only [List.take_succ_cons, fsum, this, List.getElem_cons_succ]; omega
theorem fsum_take_le (l : List Ph) (k : Nat) : fsum (l.take k) ≤ fsum l := by
  induction l generalizing k with
  | nil => simp
  | cons x l ih =>
    cases k with
    | zero => simp [fsum]
    | succ k => have := ih k; simp only [List.take_succ_cons, fsum]; omega

/-- What still lies unmarked. -/
structure Left (w : World) (lo hi G : Nat) (n : Nat) (l : List Ph) : Prop where
  lies : ∃ done rest, done.length = n * 4 ∧ Lies w G 42 (done ++ (l.flatMap Ph.enc ++ rest))
  at_ : lo ≤ G ∧ G < hi
  fs : ∀ x ∈ l, ∃ g, x.A = some ⟨g, 0, none⟩ ∧ G < g ∧ g < hi ∧ Lies w g 3 (encIs x.f)
  nd : l.Pairwise fun x y => x.A ≠ y.A

set_option maxHeartbeats 2000000 in
theorem markPhraseS_any (lo hi G c : Nat) (k0 : Int) (l : List Ph) (w : World) (hk : 0 ≤ k0) (hk' : k0 ≤ 1000) (hn : need l ≤ 1048576) (h : Left w lo hi G 0 l) :
    Calls Try.prog 10 #[.slice (some ⟨G, 0, none⟩) l.length c, .int .i64 k0] w fun e w' => (∃ k1 : Int, e = .returned (.int .i64 k1) ∧ 0 ≤ k1) ∧ Mid lo hi w w' := by
  have hlen : l.length ≤ 1048576 := by unfold need at hn; omega
  have hft : Hid (∀ k, fsum (l.take k) ≤ 1048576) := fun k => by have := fsum_take_le l k; unfold need at hn; omega
  go_enter Try.func10, Try.ntmps10
  go_wp2
  go_loopw [1, 5] (fun kk i wr => ∃ (j s : Nat), j ≤ l.length ∧ i = .int .i64 j ∧ kk = .int .i64 (k0 + (3 * j + s : Nat)) ∧ s ≤ 1048576 ∧ Hid (s = fsum (l.take j)) ∧ Hid (Left wr lo hi G j (l.drop j)) ∧ Mid lo hi w wr) (fun _ i _ => l.length - (intOf i).toNat)
  case atStart => exact ⟨0, 0, Nat.zero_le _, rfl, congrArg _ (by simp), Nat.zero_le _, rfl, h, Mid.refl _ _ _⟩
  case round =>
    obtain ⟨j, s, hj, rfl, rfl, hs, HS, HR, hgr⟩ := hrel
    by_cases hlt : j < l.length
    · have HN : Hid (s + l[j].f.length = fsum (l.take (j + 1))) := by unfold Hid; rw [fsum_take hlt, HS.out]
      have hs1 : s + l[j].f.length ≤ 1048576 := by have := hft.out (j + 1); rw [← HN.out] at this; exact this
      have HD : Hid (l.drop j = l[j] :: l.drop (j + 1)) := List.drop_eq_getElem_cons hlt
      obtain ⟨x, hxe⟩ : ∃ x, x = l[j] := ⟨_, rfl⟩
      rw [← hxe] at HN hs1 HD
      clear hxe h
      have hR := HR.out
      rw [HD.out] at hR
      obtain ⟨⟨done, rest, hdl, hL⟩, ⟨hG1, hG2⟩, hfs, hnd⟩ := hR
      have HL := Lib.hid hL; clear hL
      have HDL := Lib.hid hdl; clear hdl
      obtain ⟨g, hA, hGg, hgh, hLg⟩ := hfs x (List.mem_cons_self ..)
      have HF : Hid (∀ y ∈ l.drop (j + 1), ∃ g', y.A = some ⟨g', 0, none⟩ ∧ G < g' ∧ g' < hi ∧ g' ≠ g ∧ Lies wr g' 3 (encIs y.f)) := fun y hy => by
        obtain ⟨g', hA', h1, h2, h3⟩ := hfs y (List.mem_cons_of_mem _ hy)
        refine ⟨g', hA', h1, h2, fun e => (List.pairwise_cons.1 hnd).1 y hy ?_, h3⟩
        rw [hA, hA', e]
      have HND := Lib.hid (List.pairwise_cons.1 hnd).2
      clear hfs hnd
      have hL' : Lies wr G 42 (done ++ (.int .i64 x.s :: .int .i64 x.c :: .slice x.A x.f.length x.cap :: .int .i64 x.p :: ((l.drop (j + 1)).flatMap Ph.enc ++ rest))) := by
        have := HL.out; simpa [Ph.enc] using this
      clear HL
      have HL := Lib.hid hL'; clear hL'
      have c0 : wr.cell? ⟨G, j * 4, none⟩ = some (.int .i64 x.s) := (HL.out.cell _).trans (at_behind HDL.out 0)
      have c1 : wr.cell? ⟨G, j * 4 + 1, none⟩ = some (.int .i64 x.c) := (HL.out.cell _).trans (at_behind HDL.out 1)
      have c2 : wr.cell? ⟨G, j * 4 + 2, none⟩ = some (.slice x.A x.f.length x.cap) := (HL.out.cell _).trans (at_behind HDL.out 2)
      have c3 : wr.cell? ⟨G, j * 4 + 3, none⟩ = some (.int .i64 x.p) := (HL.out.cell _).trans (at_behind HDL.out 3)
      rw [hA] at c2
      have HA := Lib.hid hA; clear hA
      have f0 : wr.frozen? ⟨G, j * 4, none⟩ = false := HL.out.frozen _
      have f1 : wr.frozen? ⟨G, j * 4 + 1, none⟩ = false := HL.out.frozen _
      have f2 : wr.frozen? ⟨G, j * 4 + 2, none⟩ = false := HL.out.frozen _
      have f3 : wr.frozen? ⟨G, j * 4 + 3, none⟩ = false := HL.out.frozen _
      have hm0 : Mid lo hi w ((wr.setCell ⟨G, j * 4, none⟩ (.int .i64 (k0 + (3 * (j : Int) + (s : Int))))).setCell ⟨G, j * 4 + 1, none⟩ (.int .i64 (k0 + (3 * (j : Int) + (s : Int)) + 1))) :=
        hgr.trans (Mid.of (grown_set (grown_set (World.grownBy.refl wr (some G)))) (by rintro _ ⟨⟩; exact ⟨hG1, hG2⟩))
      have hL0 : Hid (Lies ((wr.setCell ⟨G, j * 4, none⟩ (.int .i64 (k0 + (3 * (j : Int) + (s : Int))))).setCell ⟨G, j * 4 + 1, none⟩ (.int .i64 (k0 + (3 * (j : Int) + (s : Int)) + 1))) G 42 (done ++ (.int .i64 (k0 + (3 * (j : Int) + (s : Int))) :: .int .i64 (k0 + (3 * (j : Int) + (s : Int)) + 1) :: .slice x.A x.f.length x.cap :: .int .i64 x.p :: ((l.drop (j + 1)).flatMap Ph.enc ++ rest)))) := by
        have h1 := HL.out.set (j * 4) (.int .i64 (k0 + (3 * (j : Int) + (s : Int))))
        have e0 := fun r u => set_behind (r := r) HDL.out 0 (u : Value)
        rw [Nat.add_zero] at e0
        rw [e0] at h1
        have h2 := h1.set (j * 4 + 1) (.int .i64 (k0 + (3 * (j : Int) + (s : Int)) + 1))
        rw [set_behind HDL.out 1] at h2
        exact h2
      have hg0 := (hLg.other (p := ⟨G, j * 4, none⟩) (by simp only; omega) (.int .i64 (k0 + (3 * (j : Int) + (s : Int))))).other (p := ⟨G, j * 4 + 1, none⟩) (by simp only; omega) (.int .i64 (k0 + (3 * (j : Int) + (s : Int)) + 1))
      have HF0 : Hid (∀ y ∈ l.drop (j + 1), ∃ g', y.A = some ⟨g', 0, none⟩ ∧ G < g' ∧ g' < hi ∧ g' ≠ g ∧ Lies ((wr.setCell ⟨G, j * 4, none⟩ (.int .i64 (k0 + (3 * (j : Int) + (s : Int))))).setCell ⟨G, j * 4 + 1, none⟩ (.int .i64 (k0 + (3 * (j : Int) + (s : Int)) + 1))) g' 3 (encIs y.f)) := fun y hy => by
        obtain ⟨g', hA', h1, h2, h3, h4⟩ := HF.out y hy
        exact ⟨g', hA', h1, h2, h3, (h4.other (by simp only; omega) _).other (by simp only; omega) _⟩
      clear HL hLg HF hgr
      go_wp2_with fail
      clear c0 c1 c2 c3 f0 f1 f2 f3
      generalize ((wr.setCell ⟨G, j * 4, none⟩ (.int .i64 (k0 + (3 * (j : Int) + (s : Int))))).setCell ⟨G, j * 4 + 1, none⟩ (.int .i64 (k0 + (3 * (j : Int) + (s : Int)) + 1))) = W at hm0 hL0 hg0 HF0 ⊢
      refine (markIntS_any (some ⟨g, 0, none⟩) x.cap x.f.length lo _ (encIs x.f) W (by omega) (by omega) (by omega) ⟨by simp, by omega, .inr ⟨g, [], rfl, by omega, by simpa using hg0⟩⟩).mono ?_
      rintro e w1 ⟨rfl, hO1, hgr0⟩
      have hgr1 : W.grownBy w1 (some g) := hgr0
      clear hgr0
      have hL1 := Lib.hid (hL0.out.kept hgr1 (by intro e; injection e with e; omega))
      have c3 : w1.cell? ⟨G, j * 4 + 3, none⟩ = some (.int .i64 x.p) := (hL1.out.cell _).trans (at_behind HDL.out 3)
      have f3 : w1.frozen? ⟨G, j * 4 + 3, none⟩ = false := hL1.out.frozen _
      have hm1 := hm0.trans (Mid.of hgr1 (by rintro _ ⟨⟩; exact ⟨by omega, hgh⟩))
      have HF1 : Hid (∀ y ∈ l.drop (j + 1), ∃ g', y.A = some ⟨g', 0, none⟩ ∧ G < g' ∧ g' < hi ∧ Lies w1 g' 3 (encIs y.f)) := fun y hy => by
        obtain ⟨g', hA', h1, h2, h3, h4⟩ := HF0.out y hy
        exact ⟨g', hA', h1, h2, h4.kept hgr1 (by intro e; injection e with e; exact h3 e)⟩
      clear hL0 HF0 hO1 hm0 hg0
      go_wp2
      go_roundw
      case rel =>
        refine ⟨j + 1, s + x.f.length, by omega, by go_num, congrArg _ (by omega), by omega, HN.out, ⟨⟨done ++ [.int .i64 (k0 + (3 * (j : Int) + (s : Int))), .int .i64 (k0 + (3 * (j : Int) + (s : Int)) + 1), .slice x.A x.f.length x.cap, .int .i64 (k0 + (3 * (j : Int) + (s : Int)) + 1 + 1 + x.f.length)], rest, by simp [HDL.out]; omega, ?_⟩, ⟨hG1, hG2⟩, ?_, HND.out⟩, hm1.trans (Mid.of (grown_set (World.grownBy.refl _ (some G))) (by rintro _ ⟨⟩; exact ⟨hG1, hG2⟩))⟩
        · have h1 := hL1.out.set (j * 4 + 3) (.int .i64 (k0 + (3 * (j : Int) + (s : Int)) + 1 + 1 + x.f.length))
          rw [set_behind HDL.out 3] at h1
          rw [List.append_assoc]
          exact h1
        · intro y hy
          obtain ⟨g', hA', h1, h2, h3⟩ := HF1.out y hy
          exact ⟨g', hA', h1, h2, h3.other (by simp only; omega) _⟩
      case measure => simp [intOf]; omega
    · go_wp2
      go_ret
      exact ⟨⟨_, rfl, by omega⟩, hgr⟩
end Go.Proofs.Ytchkjiadnackaaa

/- FaultTally, in the reference and in the program. -/
namespace Go.Proofs.Ytchkjiadnackaaa
open Go.RowKit

def bump (acc : List Int) (f c : Int) : List Int := acc.set (f - 1).toNat (acc.getD (f - 1).toNat 0 + c)
def tallyX (c : Int) : List Int → List Int → List Int
  | [], acc => acc
  | f :: fs, acc => tallyX c fs (bump acc f c)
def tallyFrom : List Ph → List Int → List Int
  | [], acc => acc
  | x :: l, acc => tallyFrom l (tallyX x.c x.f acc)
def tallyR (l : List Ph) : List Int := if goodPhs l then tallyFrom l (List.replicate 9 0) else []
theorem tallyX_step {c : Int} {l : List Int} {k : Nat} (h : k < l.length) (acc : List Int) : tallyX c (l.drop k) acc = tallyX c (l.drop (k + 1)) (bump acc l[k] c) := by
  rw [List.drop_eq_getElem_cons h]; rfl
theorem tally_step {l : List Ph} {k : Nat} (h : k < l.length) (acc : List Int) : tallyFrom (l.drop k) acc = tallyFrom (l.drop (k + 1)) (tallyX l[k].c l[k].f acc) := by
  rw [List.drop_eq_getElem_cons h]; rfl
theorem bump_len (acc : List Int) (f c : Int) : (bump acc f c).length = acc.length := by simp [bump]
theorem tallyX_len (c : Int) : ∀ (l : List Int) (acc : List Int), (tallyX c l acc).length = acc.length
  | [], _ => rfl
  | f :: l, acc => by rw [tallyX, tallyX_len c l, bump_len]
theorem tallyFrom_len : ∀ (l : List Ph) (acc : List Int), (tallyFrom l acc).length = acc.length
  | [], _ => rfl
  | x :: l, acc => by rw [tallyFrom, tallyFrom_len l, tallyX_len]
theorem tallyR_len (l : List Ph) : (tallyR l).length ≤ 9 := by
  unfold tallyR
  split
  · rw [tallyFrom_len]; simp
  · simp
theorem tally_ph : ∀ {a b : List Ph} (s : List Int), a.map Ph.ph = b.map Ph.ph → tallyFrom a s = tallyFrom b s
  | [], [], _, _ => rfl
  | [], _ :: _, _, h => by simp at h
  | _ :: _, [], _, h => by simp at h
  | x :: a, y :: b, s, h => by
    simp only [List.map_cons, List.cons.injEq] at h
    have h1 := h.1; unfold Ph.ph at h1; injection h1 with h1 h2; injection h2 with h2 h3; injection h3 with h3 h4
    rw [tallyFrom, tallyFrom, h2, h3]; exact tally_ph _ h.2
theorem tallyR_ph {a b : List Ph} (h : a.map Ph.ph = b.map Ph.ph) : tallyR a = tallyR b := by unfold tallyR; rw [good_ph h, tally_ph _ h]

/-- Nine numbers, each at most m. -/
structure Nine (acc : List Int) (m : Nat) : Prop where
  len : acc.length = 9
  bd : ∀ i (h : i < acc.length), 0 ≤ acc[i] ∧ acc[i] ≤ 99 * (m : Int)
theorem nine_zero : Nine (List.replicate 9 0) 0 := ⟨rfl, fun i hi => by rw [List.getElem_replicate]; omega⟩
theorem Nine.bump {acc : List Int} {m : Nat} (h : Nine acc m) {n : Nat} (hn : n < 9) {c : Int} (hc : 1 ≤ c) (hc' : c ≤ 99) : Nine (Go.Proofs.Ytchkjiadnackaaa.bump acc ((n : Int) + 1) c) (m + 1) := by
  have e : ((n : Int) + 1 - 1).toNat = n := by omega
  refine ⟨by rw [bump_len, h.len], fun i hi => ?_⟩
  have hi' : i < acc.length := by rw [bump_len] at hi; exact hi
  have hb := h.bd i hi'
  have hnn := h.bd n (by rw [h.len]; exact hn)
  unfold Go.Proofs.Ytchkjiadnackaaa.bump
  simp only [e, List.getElem_set]
  split
  · rw [List.getD_eq_getElem?_getD, List.getElem?_eq_getElem (by rw [h.len]; exact hn), Option.getD_some]
    omega
  · omega
theorem bump_eq {acc : List Int} {m : Nat} (h : Nine acc m) {n : Nat} (hn : n < 9) (c : Int) : encIs (bump acc ((n : Int) + 1) c) = (encIs acc).set n (.int .i64 (acc[n]'(by rw [h.len]; exact hn) + c)) := by
  have e : ((n : Int) + 1 - 1).toNat = n := by omega
  unfold bump encIs
  rw [e, List.getD_eq_getElem?_getD, List.getElem?_eq_getElem (by rw [h.len]; exact hn), Option.getD_some, List.map_set]
theorem rises_at {lo hi : Int} {l : List Int} (h : rises lo hi l = true) {i : Nat} (hi' : i < l.length) : lo ≤ l[i] ∧ l[i] ≤ hi := by
  rw [rises_eq, Bool.and_eq_true, List.all_eq_true] at h
  exact inR_iff.1 (h.2 _ (List.getElem_mem hi'))
theorem fsum_take_succ {l : List Ph} {k s : Nat} (h : k < l.length) (hs : s = fsum (l.take k)) : s + l[k].f.length = fsum (l.take (k + 1)) := by rw [fsum_take h, hs]

set_option maxHeartbeats 2000000 in
theorem implTally_any (A : Option Addr) (c : Nat) (l : List Ph) (w : World) (h : PhsR w w.heap.size A l) (hn : need l ≤ 1048576) :
    Calls Try.prog 19 #[.slice A l.length c] w fun e w' => ∃ A' c', e = .returned (.tuple #[.slice A' (tallyR l).length c', .bool (goodPhs l)]) ∧ OwnS w' w.heap.size 3 1 A' (tallyR l).length (encIs (tallyR l)) ∧ Below w.heap.size w w' := by
  have hl := h.slc.big
  have hrd := h.ph
  have hf : Hid (∀ i (hi : i < l.length), IntsR w w.heap.size l[i].A l[i].f) := fun i hi => h.f hi
  cases hg : goodPhs l
  · have HG := Lib.hid hg; clear hg hrd
    have HF : Hid (tallyR l = []) := by unfold tallyR; rw [HG.out]; rfl
    go_enter Try.func19, Try.ntmps19
    go_wp2_with (go_at_call 32; refine (arePhrases_any A c l _ h).mono ?_; rw [HG.out]; rintro e w1 ⟨rfl, hb1⟩)
    go_ret2
    rw [HF.out]
    exact ⟨_, _, rfl, ⟨rfl, by simp, .inl ⟨rfl, rfl⟩⟩, hb1⟩
  · have h10 := good_len hg
    have HA : Hid (∀ i (hi : i < l.length), l[i].ok = true) := fun i hi => good_at hg hi
    have HF : Hid (tallyFrom (l.drop 0) (List.replicate 9 0) = tallyR l) := by unfold tallyR; rw [hg]; rfl
    have hft : Hid (∀ k, fsum (l.take k) ≤ 1048576) := fun k => by have := fsum_take_le l k; unfold need at hn; omega
    have HG := Lib.hid hg; clear hg
    have hmk : ∀ W : World, (Instr.makeSlice 36 (.int .i64 9) (.int .i64 9)).run Try.prog W = .ok (.slice (some ⟨W.heap.size, 0, none⟩) 9 9) (W.alloc (.cells #[.int .i64 0, .int .i64 0, .int .i64 0, .int .i64 0, .int .i64 0, .int .i64 0, .int .i64 0, .int .i64 0, .int .i64 0] 3)) := fun _ => by kernel_rfl
    go_enter Try.func19, Try.ntmps19
    go_wp2_with (go_at_call 32; refine (arePhrases_any A c l _ h).mono ?_; rw [HG.out]; rintro e w1 ⟨rfl, hb1⟩)
    have hbW := hb1.alloc hb1.size (.cells #[.int .i64 0, .int .i64 0, .int .i64 0, .int .i64 0, .int .i64 0, .int .i64 0, .int .i64 0, .int .i64 0, .int .i64 0] 3)
    have hlW := Lies.new w1 3 #[.int .i64 0, .int .i64 0, .int .i64 0, .int .i64 0, .int .i64 0, .int .i64 0, .int .i64 0, .int .i64 0, .int .i64 0]
    have hgW := hb1.size
    generalize w1.alloc (.cells #[.int .i64 0, .int .i64 0, .int .i64 0, .int .i64 0, .int .i64 0, .int .i64 0, .int .i64 0, .int .i64 0, .int .i64 0] 3) = W at hbW hlW ⊢
    generalize w1.heap.size = g at hlW hgW ⊢
    go_loopw [15] (fun i wr => ∃ (k s : Nat) (acc : List Int), k ≤ l.length ∧ i = .int .i64 k ∧ s ≤ 1048576 ∧ Hid (s = fsum (l.take k)) ∧ Hid (Nine acc s) ∧ Below w.heap.size w wr ∧ Hid (Lies wr g 3 (encIs acc)) ∧ Hid (tallyFrom (l.drop k) acc = tallyR l)) (fun i _ => l.length - (intOf i).toNat)
    case atStart => exact ⟨0, 0, List.replicate 9 0, Nat.zero_le _, rfl, by omega, rfl, nine_zero, hbW, hlW, HF⟩
    case round =>
      clear hb1 hbW hlW
      obtain ⟨k, s, acc, hk, rfl, hs, HS, HN, hbr, HL, HR⟩ := hrel
      by_cases hlt : k < l.length
      · obtain ⟨b, off, rfl, hb, hcell⟩ := hrd (by omega)
        obtain ⟨c0, c1, c2, c3⟩ := hcell k hlt
        have hx := hf.out k hlt
        obtain ⟨_, ⟨xc1, xc2⟩, hrise, _⟩ := Ph.bounds (HA.out k hlt)
        have HT : Hid (tallyFrom (l.drop k) acc = tallyFrom (l.drop (k + 1)) (tallyX l[k].c l[k].f acc)) := tally_step hlt _
        have HS1 : Hid (s + l[k].f.length = fsum (l.take (k + 1))) := fsum_take_succ hlt HS.out
        have hs1 : s + l[k].f.length ≤ 1048576 := by have := hft.out (k + 1); rw [← HS1.out] at this; exact this
        obtain ⟨x, hxe⟩ : ∃ x, x = l[k] := ⟨_, rfl⟩
        rw [← hxe] at c0 c1 c2 c3 xc1 xc2 hrise HT HS1 hs1 hx
        clear hxe hcell hrd
        have hrx := hx.ints
        have hxl := hx.big
        have HRI := Lib.hid hrise; clear hrise
        obtain ⟨q, rfl⟩ : ∃ q : Since w.heap.size w, wr = q.val := ⟨⟨wr, hbr⟩, rfl⟩
        go_wp2
        have hbV := q.below.alloc q.size (.cells #[.int .i64 x.s, .int .i64 x.c, .slice x.A x.f.length x.cap, .int .i64 x.p] 42)
        have hlV := Lies.new q.val 42 #[.int .i64 x.s, .int .i64 x.c, .slice x.A x.f.length x.cap, .int .i64 x.p]
        have hlG := HL.out.alloc (.cells #[.int .i64 x.s, .int .i64 x.c, .slice x.A x.f.length x.cap, .int .i64 x.p] 42)
        have hgl := HL.out.lt
        generalize q.val.alloc (.cells #[.int .i64 x.s, .int .i64 x.c, .slice x.A x.f.length x.cap, .int .i64 x.p] 42) = V at hbV hlV hlG ⊢
        generalize q.val.heap.size = gx at hlV hgl ⊢
        clear c0 c1 c2 c3 HL hbr
        go_loopw [8, 22] (fun _ jj wr => ∃ (j t : Nat) (acc' : List Int), j ≤ x.f.length ∧ jj = .int .i64 j ∧ t = s + j ∧ Hid (Nine acc' t) ∧ Below w.heap.size w wr ∧ Hid (Lies wr gx 42 x.enc) ∧ Hid (Lies wr g 3 (encIs acc')) ∧ Hid (tallyX x.c (x.f.drop j) acc' = tallyX x.c x.f acc)) (fun _ jj _ => x.f.length - (intOf jj).toNat)
        case atStart => exact ⟨0, s, acc, Nat.zero_le _, rfl, rfl, HN, hbV, hlV, hlG, rfl⟩
        case round =>
          clear hbV hlV hlG HN
          obtain ⟨j, t, acc', hj, rfl, ht, HN, hbr, HV, HL, HX⟩ := hrel
          by_cases hlj : j < x.f.length
          · obtain ⟨b', off', hA', hb', hcell'⟩ := hrx (by omega)
            obtain ⟨p, rfl⟩ : ∃ p : Since w.heap.size w, wr = p.val := ⟨⟨wr, hbr⟩, rfl⟩
            have d0 := hcell' j hlj
            have hfb := rises_at HRI.out hlj
            have HXS : Hid (tallyX x.c (x.f.drop j) acc' = tallyX x.c (x.f.drop (j + 1)) (bump acc' x.f[j] x.c)) := tallyX_step hlj _
            obtain ⟨n, hne⟩ : ∃ n : Nat, x.f[j] = (n : Int) + 1 := ⟨(x.f[j] - 1).toNat, by omega⟩
            rw [hne] at d0 hfb HXS
            have hn9 : n < 9 := by omega
            have HN1 : Hid (Nine (bump acc' ((n : Int) + 1) x.c) (t + 1)) := HN.out.bump hn9 xc1 xc2
            have HB1 : Hid (encIs (bump acc' ((n : Int) + 1) x.c) = (encIs acc').set n (.int .i64 (acc'[n]'(by rw [HN.out.len]; exact hn9) + x.c))) := bump_eq HN.out hn9 x.c
            have e0 : p.val.cell? ⟨g, n, none⟩ = some (.int .i64 (acc'[n]'(by rw [HN.out.len]; exact hn9))) := by
              rw [HL.out.cell]; unfold encIs; rw [List.getElem?_map, List.getElem?_eq_getElem (by rw [HN.out.len]; exact hn9)]; rfl
            have hv := HN.out.bd n (by rw [HN.out.len]; exact hn9)
            obtain ⟨v, hve⟩ : ∃ v, v = acc'[n]'(by rw [HN.out.len]; exact hn9) := ⟨_, rfl⟩
            rw [← hve] at e0 hv HB1
            obtain ⟨hv1, hv2⟩ := hv
            clear hve hne hcell' hfb hrx
            have f0 : p.val.frozen? ⟨g, n, none⟩ = false := HL.out.frozen n
            have e1 := HV.out.cell 1
            simp only [Ph.enc, List.getElem?_cons_zero, List.getElem?_cons_succ] at e1
            have HT2 := Lib.hid ht
            have hts : t ≤ 1048576 := by omega
            clear ht
            rw [hA']
            go_wp2
            go_region
            go_wp2
            go_roundw
            case rel =>
              refine ⟨j + 1, t + 1, _, by omega, by go_num, by have := HT2.out; omega, HN1, by go_grown, ?_, ?_, Lib.hid (by have h1 := HX.out; rw [HXS.out] at h1; exact h1)⟩
              · exact (HV.out.other (p := ⟨g, n, none⟩) (by simp only; omega) _)
              · have h1 := HL.out.set n (.int .i64 (v + x.c))
                rw [← HB1.out] at h1; exact h1
            case measure => simp [intOf]; omega
          · have HE : Hid (acc' = tallyX x.c x.f acc) := by
              have h1 := HX.out; rw [List.drop_eq_nil_of_le (by omega)] at h1; exact h1
            have hjl : j = x.f.length := by omega
            have HT2 : Hid (t = s + x.f.length) := by rw [ht, hjl]; rfl
            clear hrx ht hjl
            go_wp2
            go_roundw
            case rel => exact ⟨k + 1, s + x.f.length, acc', by omega, by go_num, hs1, HS1, by rw [← HT2.out]; exact HN, hbr, HL, Lib.hid (by have h1 := HR.out; rw [HT.out, ← HE.out] at h1; exact h1)⟩
            case measure => simp [intOf]; omega
      · have HE : Hid (acc = tallyR l) := by
          have h1 := HR.out; rw [List.drop_eq_nil_of_le (by omega)] at h1; exact h1
        clear hrd
        go_wp2
        go_ret2
        rw [← HE.out, HN.out.len]
        exact ⟨_, _, rfl, ⟨by simp [HN.out.len], by omega, .inr ⟨_, [], rfl, hgW, by simpa using HL.out⟩⟩, hbr⟩
set_option maxHeartbeats 2000000 in
theorem specTally_any (A : Option Addr) (c : Nat) (l : List Ph) (w : World) (h : PhsR w w.heap.size A l) (hn : need l ≤ 1048576) :
    Calls Try.prog 20 #[.slice A l.length c] w fun e w' => ∃ A' c', e = .returned (.tuple #[.slice A' (tallyR l).length c', .bool (goodPhs l)]) ∧ OwnS w' w.heap.size 3 1 A' (tallyR l).length (encIs (tallyR l)) ∧ Below w.heap.size w w' := by
  have hl := h.slc.big
  have hrd := h.ph
  have hf : Hid (∀ i (hi : i < l.length), IntsR w w.heap.size l[i].A l[i].f) := fun i hi => h.f hi
  cases hg : goodPhs l
  · have HG := Lib.hid hg; clear hg hrd
    have HF : Hid (tallyR l = []) := by unfold tallyR; rw [HG.out]; rfl
    go_enter Try.func20, Try.ntmps20
    go_wp2_with (go_at_call 28; refine (l30Good_any A c l _ h).mono ?_; rw [HG.out]; rintro e w1 ⟨rfl, hb1⟩)
    go_ret2
    rw [HF.out]
    exact ⟨_, _, rfl, ⟨rfl, by simp, .inr ⟨_, [], rfl, hb1.size, by simpa using Lies.new w1 3 #[]⟩⟩, hb1.alloc hb1.size _⟩
  · have h10 := good_len hg
    have HA : Hid (∀ i (hi : i < l.length), l[i].ok = true) := fun i hi => good_at hg hi
    have HF : Hid (tallyFrom (l.drop 0) (List.replicate 9 0) = tallyR l) := by unfold tallyR; rw [hg]; rfl
    have hft : Hid (∀ k, fsum (l.take k) ≤ 1048576) := fun k => by have := fsum_take_le l k; unfold need at hn; omega
    have HG := Lib.hid hg; clear hg
    have hmk : ∀ W : World, (Instr.makeSlice 36 (.int .i64 9) (.int .i64 9)).run Try.prog W = .ok (.slice (some ⟨W.heap.size, 0, none⟩) 9 9) (W.alloc (.cells #[.int .i64 0, .int .i64 0, .int .i64 0, .int .i64 0, .int .i64 0, .int .i64 0, .int .i64 0, .int .i64 0, .int .i64 0] 3)) := fun _ => by kernel_rfl
    go_enter Try.func20, Try.ntmps20
    go_wp2_with (go_at_call 28; refine (l30Good_any A c l _ h).mono ?_; rw [HG.out]; rintro e w1 ⟨rfl, hb1⟩)
    have hbW := hb1.alloc hb1.size (.cells #[.int .i64 0, .int .i64 0, .int .i64 0, .int .i64 0, .int .i64 0, .int .i64 0, .int .i64 0, .int .i64 0, .int .i64 0] 3)
    have hlW := Lies.new w1 3 #[.int .i64 0, .int .i64 0, .int .i64 0, .int .i64 0, .int .i64 0, .int .i64 0, .int .i64 0, .int .i64 0, .int .i64 0]
    have hgW := hb1.size
    generalize w1.alloc (.cells #[.int .i64 0, .int .i64 0, .int .i64 0, .int .i64 0, .int .i64 0, .int .i64 0, .int .i64 0, .int .i64 0, .int .i64 0] 3) = W at hbW hlW ⊢
    generalize w1.heap.size = g at hlW hgW ⊢
    go_loopw [5] (fun i wr => ∃ (k s : Nat) (acc : List Int), k ≤ l.length ∧ i = .int .i64 k ∧ s ≤ 1048576 ∧ Hid (s = fsum (l.take k)) ∧ Hid (Nine acc s) ∧ Below w.heap.size w wr ∧ Hid (Lies wr g 3 (encIs acc)) ∧ Hid (tallyFrom (l.drop k) acc = tallyR l)) (fun i _ => l.length - (intOf i).toNat)
    case atStart => exact ⟨0, 0, List.replicate 9 0, Nat.zero_le _, rfl, by omega, rfl, nine_zero, hbW, hlW, HF⟩
    case round =>
      clear hb1 hbW hlW
      obtain ⟨k, s, acc, hk, rfl, hs, HS, HN, hbr, HL, HR⟩ := hrel
      by_cases hlt : k < l.length
      · obtain ⟨b, off, rfl, hb, hcell⟩ := hrd (by omega)
        obtain ⟨c0, c1, c2, c3⟩ := hcell k hlt
        have hx := hf.out k hlt
        obtain ⟨_, ⟨xc1, xc2⟩, hrise, _⟩ := Ph.bounds (HA.out k hlt)
        have HT : Hid (tallyFrom (l.drop k) acc = tallyFrom (l.drop (k + 1)) (tallyX l[k].c l[k].f acc)) := tally_step hlt _
        have HS1 : Hid (s + l[k].f.length = fsum (l.take (k + 1))) := fsum_take_succ hlt HS.out
        have hs1 : s + l[k].f.length ≤ 1048576 := by have := hft.out (k + 1); rw [← HS1.out] at this; exact this
        obtain ⟨x, hxe⟩ : ∃ x, x = l[k] := ⟨_, rfl⟩
        rw [← hxe] at c0 c1 c2 c3 xc1 xc2 hrise HT HS1 hs1 hx
        clear hxe hcell hrd
        have hrx := hx.ints
        have hxl := hx.big
        have HRI := Lib.hid hrise; clear hrise
        obtain ⟨q, rfl⟩ : ∃ q : Since w.heap.size w, wr = q.val := ⟨⟨wr, hbr⟩, rfl⟩
        go_wp2
        have hbV := q.below
        have hlG := HL
        clear HL hbr
        go_loopw [6, 7] (fun jj _ wr => ∃ (j t : Nat) (acc' : List Int), j ≤ x.f.length ∧ jj = .int .i64 j ∧ t = s + j ∧ Hid (Nine acc' t) ∧ Below w.heap.size w wr ∧ Hid (Lies wr g 3 (encIs acc')) ∧ Hid (tallyX x.c (x.f.drop j) acc' = tallyX x.c x.f acc)) (fun jj _ _ => x.f.length - (intOf jj).toNat)
        case atStart => exact ⟨0, s, acc, Nat.zero_le _, rfl, rfl, HN, hbV, hlG, rfl⟩
        case round =>
          clear hbV hlG HN
          obtain ⟨j, t, acc', hj, rfl, ht, HN, hbr, HL, HX⟩ := hrel
          obtain ⟨p, rfl⟩ : ∃ p : Since w.heap.size w, wr = p.val := ⟨⟨wr, hbr⟩, rfl⟩
          by_cases hlj : j < x.f.length
          · obtain ⟨b', off', hA', hb', hcell'⟩ := hrx (by omega)
            have d0 := hcell' j hlj
            have hfb := rises_at HRI.out hlj
            have HXS : Hid (tallyX x.c (x.f.drop j) acc' = tallyX x.c (x.f.drop (j + 1)) (bump acc' x.f[j] x.c)) := tallyX_step hlj _
            obtain ⟨n, hne⟩ : ∃ n : Nat, x.f[j] = (n : Int) + 1 := ⟨(x.f[j] - 1).toNat, by omega⟩
            rw [hne] at d0 hfb HXS
            have hn9 : n < 9 := by omega
            have HN1 : Hid (Nine (bump acc' ((n : Int) + 1) x.c) (t + 1)) := HN.out.bump hn9 xc1 xc2
            have HB1 : Hid (encIs (bump acc' ((n : Int) + 1) x.c) = (encIs acc').set n (.int .i64 (acc'[n]'(by rw [HN.out.len]; exact hn9) + x.c))) := bump_eq HN.out hn9 x.c
            have e0 : p.val.cell? ⟨g, n, none⟩ = some (.int .i64 (acc'[n]'(by rw [HN.out.len]; exact hn9))) := by
              rw [HL.out.cell]; unfold encIs; rw [List.getElem?_map, List.getElem?_eq_getElem (by rw [HN.out.len]; exact hn9)]; rfl
            have hv := HN.out.bd n (by rw [HN.out.len]; exact hn9)
            obtain ⟨v, hve⟩ : ∃ v, v = acc'[n]'(by rw [HN.out.len]; exact hn9) := ⟨_, rfl⟩
            rw [← hve] at e0 hv HB1
            obtain ⟨hv1, hv2⟩ := hv
            clear hve hne hcell' hfb hrx
            have f0 : p.val.frozen? ⟨g, n, none⟩ = false := HL.out.frozen n
            have HT2 := Lib.hid ht
            have hts : t ≤ 1048576 := by omega
            clear ht
            simp only [hA'] at c2
            go_wp2
            go_region
            go_wp2
            go_roundw
            case rel =>
              refine ⟨j + 1, t + 1, _, by omega, by go_num, by have := HT2.out; omega, HN1, by go_grown, ?_, Lib.hid (by have h1 := HX.out; rw [HXS.out] at h1; exact h1)⟩
              · have h1 := HL.out.set n (.int .i64 (v + x.c))
                rw [← HB1.out] at h1; exact h1
            case measure => simp [intOf]; omega
          · have HE : Hid (acc' = tallyX x.c x.f acc) := by
              have h1 := HX.out; rw [List.drop_eq_nil_of_le (by omega)] at h1; exact h1
            have hjl : j = x.f.length := by omega
            have HT2 : Hid (t = s + x.f.length) := by rw [ht, hjl]; rfl
            clear hrx ht hjl
            go_wp2
            go_roundw
            case rel => exact ⟨k + 1, s + x.f.length, acc', by omega, by go_num, hs1, HS1, by rw [← HT2.out]; exact HN, hbr, HL, Lib.hid (by have h1 := HR.out; rw [HT.out, ← HE.out] at h1; exact h1)⟩
            case measure => simp [intOf]; omega
      · have HE : Hid (acc = tallyR l) := by
          have h1 := HR.out; rw [List.drop_eq_nil_of_le (by omega)] at h1; exact h1
        clear hrd
        go_wp2
        go_ret2
        rw [← HE.out, HN.out.len]
        exact ⟨_, _, rfl, ⟨by simp [HN.out.len], by omega, .inr ⟨_, [], rfl, hgW, by simpa using HL.out⟩⟩, hbr⟩
end Go.Proofs.Ytchkjiadnackaaa

/- FnCopies: plain facts of sorted and of merged phrases. -/
namespace Go.Proofs.Ytchkjiadnackaaa
open Go.RowKit

def sumD (g : PhD → Int) (l : List PhD) : Int := (l.map g).sum
theorem sumD_app (g : PhD → Int) (a b : List PhD) : sumD g (a ++ b) = sumD g a + sumD g b := by unfold sumD; rw [List.map_append, List.sum_append]
theorem sumD_cons (g : PhD → Int) (x : PhD) (b : List PhD) : sumD g (x :: b) = g x + sumD g b := by unfold sumD; rw [List.map_cons, List.sum_cons]
theorem sumD_nil (g : PhD → Int) : sumD g [] = 0 := rfl
theorem sumFrom_D {f : Ph → Int} {g : PhD → Int} (hf : ∀ x : Ph, f x = g x.ph) : ∀ (l : List Ph) (a : Int), sumFrom f a l = a + sumD g (l.map Ph.ph)
  | [], a => by rw [sumFrom, List.map_nil, sumD_nil]; omega
  | x :: l, a => by rw [sumFrom, sumFrom_D hf l, List.map_cons, sumD_cons, hf]; omega
theorem sumD_ins (g : PhD → Int) (l : List PhD) (x : PhD) : sumD g (insD l x) = sumD g l + g x := by
  unfold insD
  have := sumD_app g (l.take (posD x l l.length)) (l.drop (posD x l l.length))
  rw [List.take_append_drop] at this
  rw [sumD_app, sumD_cons, this]; omega
theorem sumD_sort (g : PhD → Int) (l : List PhD) : sumD g (sortD l) = sumD g l := by
  have : ∀ (l acc : List PhD), sumD g (l.foldl insD acc) = sumD g acc + sumD g l := by
    intro l
    induction l with
    | nil => intro acc; rw [List.foldl_nil, sumD_nil]; omega
    | cons x l ih => intro acc; rw [List.foldl_cons, ih, sumD_ins, sumD_cons]; omega
  have h := this l []
  rw [sumD_nil, Int.zero_add] at h
  exact h
/-- A thing that adds up over the copies. -/
def Adds (g : PhD → Int) : Prop := ∀ (s c c' : Int) (f : List Int) (p : Int), g (s, c + c', f, p) = g (s, c, f, p) + g (s, c', f, p)
theorem sumD_put {g : PhD → Int} (hg : Adds g) (out : List PhD) (p : PhD) : sumD g (putD out p) = sumD g out + g p := by
  rcases idx_spec (f := alikeD p) out 0 with ⟨h1, _⟩ | ⟨i, hi, h1, h2⟩
  · rw [putD_new (by omega), sumD_app, sumD_cons, sumD_nil]; omega
  · have hal : alikeD p out[i] = true := by first | exact h2 | exact h2.1 | exact h2.2
    rw [putD_old (i := i) (by simpa using h1), addAt_split i _ hi]
    have e : out = out.take i ++ out[i] :: out.drop (i + 1) := by rw [List.getElem_cons_drop, List.take_append_drop]
    have e2 : sumD g out = sumD g (out.take i) + (g out[i] + sumD g (out.drop (i + 1))) := by
      rw [← sumD_cons, ← sumD_app, ← e]
    obtain ⟨a1, a2, a3⟩ := alikeD_iff.1 hal
    have e3 : g (out[i].1, out[i].2.1 + p.2.1, out[i].2.2) = g out[i] + g p := by
      have := hg out[i].1 out[i].2.1 p.2.1 out[i].2.2.1 out[i].2.2.2
      rw [show p = (out[i].1, p.2.1, out[i].2.2.1, out[i].2.2.2) by rw [← a1, ← a2, ← a3]]
      exact this
    rw [sumD_app, sumD_cons, e2, e3]; omega
theorem sumD_merge {g : PhD → Int} (hg : Adds g) (l : List PhD) : sumD g (mergeD l) = sumD g l := by
  have : ∀ (l acc : List PhD), sumD g (l.foldl putD acc) = sumD g acc + sumD g l := by
    intro l
    induction l with
    | nil => intro acc; rw [List.foldl_nil, sumD_nil]; omega
    | cons x l ih => intro acc; rw [List.foldl_cons, ih, sumD_put hg, sumD_cons]; omega
  have h := this l []
  rw [sumD_nil, Int.zero_add] at h
  exact h
theorem putD_len (out : List PhD) (p : PhD) : (putD out p).length ≤ out.length + 1 := by
  unfold putD; split
  · simp
  · rw [addAt_len]; omega
theorem mergeD_len (l : List PhD) : (mergeD l).length ≤ l.length := by
  have : ∀ (l acc : List PhD), (l.foldl putD acc).length ≤ acc.length + l.length := by
    intro l
    induction l with
    | nil => intro acc; exact Nat.le_refl _
    | cons x l ih => intro acc; rw [List.foldl_cons, List.length_cons]; have := ih (putD acc x); have := putD_len acc x; omega
  have h := this l []
  rw [List.length_nil, Nat.zero_add] at h
  exact h
/-- The states of sorted phrases do not fall. -/
def Rising (l : List PhD) : Prop := l.Pairwise fun a b => a.1 ≤ b.1
theorem before_le {a b : PhD} (h : beforeD a b = true) : a.1 ≤ b.1 := by
  unfold beforeD at h
  split at h
  · rename_i e; omega
  · have := of_decide_eq_true h; omega
theorem not_before_le {a b : PhD} (h : ¬ beforeD a b = true) : b.1 ≤ a.1 := by
  unfold beforeD at h
  split at h
  · rename_i e; omega
  · have hn : ¬ a.1 < b.1 := fun q => h (decide_eq_true q)
    omega
theorem posD_spec (x : PhD) (l : List PhD) : ∀ k, (∀ i, posD x l k ≤ i → i < k → x.1 ≤ (l.getD i x).1) ∧ (0 < posD x l k → (l.getD (posD x l k - 1) x).1 ≤ x.1)
  | 0 => ⟨fun i _ h => absurd h (by omega), fun h => absurd h (by simp [posD])⟩
  | k + 1 => by
    rw [posD]
    split
    · rename_i h
      obtain ⟨h1, h2⟩ := posD_spec x l k
      refine ⟨fun i hi hk => ?_, h2⟩
      rcases Nat.lt_or_ge i k with hlt | hge
      · exact h1 i hi hlt
      · obtain rfl : i = k := by omega
        exact before_le h
    · rename_i h
      exact ⟨fun i hi hk => absurd hi (by omega), fun _ => by rw [Nat.add_sub_cancel]; exact not_before_le h⟩
theorem Rising.ins {l : List PhD} (h : Rising l) (x : PhD) : Rising (insD l x) := by
  obtain ⟨h1, h2⟩ := posD_spec x l l.length
  have hle := posD_le x l l.length
  unfold insD
  generalize posD x l l.length = j at h1 h2 hle
  unfold Rising at h ⊢
  have hd : ∀ b ∈ l.drop j, x.1 ≤ b.1 := fun b hb => by
    obtain ⟨i, hi, e⟩ := List.mem_iff_getElem.1 hb
    rw [List.length_drop] at hi
    rw [List.getElem_drop] at e
    have := h1 (j + i) (by omega) (by omega)
    rwa [List.getD_eq_getElem?_getD, List.getElem?_eq_getElem (by omega), Option.getD_some, e] at this
  have ht : ∀ a ∈ l.take j, a.1 ≤ x.1 := fun a ha => by
    obtain ⟨i, hi, e⟩ := List.mem_iff_getElem.1 ha
    rw [List.length_take] at hi
    rw [List.getElem_take] at e
    have h3 := h2 (by omega)
    rw [List.getD_eq_getElem?_getD, List.getElem?_eq_getElem (by omega), Option.getD_some] at h3
    rcases Nat.lt_or_ge i (j - 1) with hlt | hge
    · have := List.pairwise_iff_getElem.1 h i (j - 1) (by omega) (by omega) hlt
      rw [← e]; omega
    · have : i = j - 1 := by omega
      subst this
      rw [← e]; exact h3
  have hs := h
  rw [← List.take_append_drop j l, List.pairwise_append] at hs
  rw [List.pairwise_append, List.pairwise_cons]
  refine ⟨hs.1, ⟨hd, hs.2.1⟩, fun a ha b hb => ?_⟩
  rcases List.mem_cons.1 hb with rfl | hb
  · exact ht a ha
  · exact hs.2.2 a ha b hb
theorem sortD_rising (l : List PhD) : Rising (sortD l) := by
  have : ∀ (l acc : List PhD), Rising acc → Rising (l.foldl insD acc) := by
    intro l
    induction l with
    | nil => intro acc h; exact h
    | cons x l ih => intro acc h; exact ih _ (h.ins x)
  exact this l [] List.Pairwise.nil
theorem sorted_at {m : List Ph} {l : List PhD} (hm : m.map Ph.ph = sortD l) {i : Nat} (hi : i + 1 < m.length) : m[i].s ≤ m[i + 1].s := by
  have h := sortD_rising l
  rw [← hm] at h
  have := List.pairwise_iff_getElem.1 h i (i + 1) (by simp; omega) (by simpa using hi) (by omega)
  simpa [Ph.ph] using this
end Go.Proofs.Ytchkjiadnackaaa

/- FnCopies: what stays when phrases are sorted or merged. -/
namespace Go.Proofs.Ytchkjiadnackaaa
open Go.RowKit

def gW (p : PhD) : Int := p.2.1 * p.2.2.2
def gC (p : PhD) : Int := if p.2.2.1.length = 0 then p.2.1 else 0
def gS (st : Int) (p : PhD) : Int := if p.1 = st then p.2.1 else 0
theorem adds_gW : Adds gW := fun s c c' f p => by unfold gW; exact Int.add_mul ..
theorem adds_gC : Adds gC := fun s c c' f p => by unfold gC; simp only; split <;> omega
theorem worth_D (l : List Ph) : sumFrom worthV 0 l = sumD gW (l.map Ph.ph) := (sumFrom_D (f := worthV) (g := gW) (fun _ => rfl) l 0).trans (Int.zero_add _)
theorem clean_D (l : List Ph) : sumFrom cleanV 0 l = sumD gC (l.map Ph.ph) := (sumFrom_D (f := cleanV) (g := gC) (fun _ => rfl) l 0).trans (Int.zero_add _)
theorem state_D (st : Int) (l : List Ph) : sumFrom (stateV st) 0 l = sumD (gS st) (l.map Ph.ph) := (sumFrom_D (f := (stateV st)) (g := (gS st)) (fun _ => rfl) l 0).trans (Int.zero_add _)
theorem worth_sort {m l : List Ph} (h : m.map Ph.ph = sortD (l.map Ph.ph)) : sumFrom worthV 0 m = sumFrom worthV 0 l := by rw [worth_D, worth_D, h, sumD_sort]
theorem worth_merge {m l : List Ph} (h : m.map Ph.ph = mergeD (l.map Ph.ph)) : sumFrom worthV 0 m = sumFrom worthV 0 l := by rw [worth_D, worth_D, h, sumD_merge adds_gW]
theorem clean_merge {m l : List Ph} (h : m.map Ph.ph = mergeD (l.map Ph.ph)) : sumFrom cleanV 0 m = sumFrom cleanV 0 l := by rw [clean_D, clean_D, h, sumD_merge adds_gC]

/-- What a phrase puts to the tally's place n. -/
def addsT (N n : Nat) (c : Int) (fs : List Int) : Int := (fs.map fun f => if (f - 1).toNat = n ∧ n < N then c else 0).sum
def gT (N n : Nat) (p : PhD) : Int := addsT N n p.2.1 p.2.2.1
theorem addsT_add (N n : Nat) (c c' : Int) : ∀ fs : List Int, addsT N n (c + c') fs = addsT N n c fs + addsT N n c' fs
  | [] => rfl
  | f :: fs => by
    have := addsT_add N n c c' fs
    unfold addsT at this ⊢
    simp only [List.map_cons, List.sum_cons]
    rw [this]
    split <;> omega
theorem adds_gT (N n : Nat) : Adds (gT N n) := fun _ c c' f _ => addsT_add N n c c' f
theorem bump_get (acc : List Int) (f c : Int) (n : Nat) : (bump acc f c).getD n 0 = acc.getD n 0 + if (f - 1).toNat = n ∧ n < acc.length then c else 0 := by
  unfold bump
  generalize (f - 1).toNat = q
  rw [List.getD_eq_getElem?_getD, List.getD_eq_getElem?_getD, List.getD_eq_getElem?_getD, List.getElem?_set]
  by_cases h1 : q = n
  · subst h1
    by_cases h2 : q < acc.length
    · simp [h2]
    · simp [h2]
  · simp [h1]
theorem tallyX_get (c : Int) (n : Nat) : ∀ (fs acc : List Int), (tallyX c fs acc).getD n 0 = acc.getD n 0 + addsT acc.length n c fs
  | [], acc => by simp [tallyX, addsT]
  | f :: fs, acc => by
    rw [tallyX, tallyX_get c n fs, bump_get, bump_len]
    unfold addsT
    simp only [List.map_cons, List.sum_cons]
    omega
theorem tallyFrom_get (n : Nat) : ∀ (l : List Ph) (acc : List Int), (tallyFrom l acc).getD n 0 = acc.getD n 0 + sumD (gT acc.length n) (l.map Ph.ph)
  | [], acc => by rw [tallyFrom, List.map_nil, sumD_nil]; omega
  | x :: l, acc => by
    rw [tallyFrom, tallyFrom_get n l, tallyX_get, tallyX_len, List.map_cons, sumD_cons]
    have : gT acc.length n x.ph = addsT acc.length n x.c x.f := rfl
    omega
theorem tally_eq {m l : List Ph} (h : ∀ n, sumD (gT 9 n) (m.map Ph.ph) = sumD (gT 9 n) (l.map Ph.ph)) : tallyFrom m (List.replicate 9 0) = tallyFrom l (List.replicate 9 0) := by
  have key : ∀ n, (tallyFrom m (List.replicate 9 0)).getD n 0 = (tallyFrom l (List.replicate 9 0)).getD n 0 := fun n => by
    rw [tallyFrom_get, tallyFrom_get, List.length_replicate, h]
  refine List.ext_getElem (by rw [tallyFrom_len, tallyFrom_len]) fun i h1 h2 => ?_
  have := key i
  rwa [List.getD_eq_getElem?_getD, List.getD_eq_getElem?_getD, List.getElem?_eq_getElem h1, List.getElem?_eq_getElem h2] at this
theorem good_sort {m l : List Ph} (h : m.map Ph.ph = sortD (l.map Ph.ph)) (hg : goodPhs l = true) : goodPhs m = true := by
  rw [good_goodD] at hg ⊢
  have := sortA_good (l.map Ph.ph)
  unfold sortA at this
  rw [if_pos hg] at this
  rw [h]; exact this
theorem tally_sort {m l : List Ph} (h : m.map Ph.ph = sortD (l.map Ph.ph)) (hg : goodPhs l = true) : tallyR m = tallyR l := by
  unfold tallyR
  rw [if_pos (good_sort h hg), if_pos hg]
  exact tally_eq fun n => by rw [h, sumD_sort]
theorem tally_merge {m l : List Ph} (h : m.map Ph.ph = mergeD (l.map Ph.ph)) (hg : goodPhs l = true) (hm : goodPhs m = true) : tallyR m = tallyR l := by
  unfold tallyR
  rw [if_pos hm, if_pos hg]
  exact tally_eq fun n => by rw [h, sumD_merge (adds_gT 9 n)]
theorem len_sort {m l : List Ph} (h : m.map Ph.ph = sortD (l.map Ph.ph)) : m.length = l.length := by
  have := congrArg List.length h
  rw [sortD_len] at this
  simpa using this
theorem len_merge {m l : List Ph} (h : m.map Ph.ph = mergeD (l.map Ph.ph)) : m.length ≤ l.length := by
  have h1 := congrArg List.length h
  have h2 := mergeD_len (l.map Ph.ph)
  simp at h1 h2
  omega
theorem clean_states : ∀ (l : List Ph), (∀ x ∈ l, x.ok = true) → (0 ≤ sumD (gS 1) (l.map Ph.ph) ∧ sumD (gS 1) (l.map Ph.ph) ≤ 99 * l.length) ∧ (0 ≤ sumD (gS 2) (l.map Ph.ph) ∧ sumD (gS 2) (l.map Ph.ph) ≤ 99 * l.length) ∧ (0 ≤ sumD (gS 3) (l.map Ph.ph) ∧ sumD (gS 3) (l.map Ph.ph) ≤ 99 * l.length) ∧ sumD gC (l.map Ph.ph) ≤ sumD (gS 1) (l.map Ph.ph) + sumD (gS 2) (l.map Ph.ph) + sumD (gS 3) (l.map Ph.ph)
  | [], _ => by simp [sumD]
  | x :: l, h => by
    obtain ⟨a1, a2, a3, a4⟩ := clean_states l fun y hy => h y (List.mem_cons_of_mem _ hy)
    obtain ⟨⟨s1, s2⟩, ⟨c1, c2⟩, _, _⟩ := Ph.bounds (h x (List.mem_cons_self ..))
    simp only [List.map_cons, sumD_cons, List.length_cons]
    have e1 : gS 1 x.ph = if x.s = 1 then x.c else 0 := rfl
    have e2 : gS 2 x.ph = if x.s = 2 then x.c else 0 := rfl
    have e3 : gS 3 x.ph = if x.s = 3 then x.c else 0 := rfl
    have e4 : gC x.ph = if x.f.length = 0 then x.c else 0 := rfl
    rw [e1, e2, e3, e4]
    have hs : x.s = 1 ∨ x.s = 2 ∨ x.s = 3 := by omega
    have hc : (if x.f.length = 0 then x.c else 0) ≤ x.c := by split <;> omega
    generalize (if x.f.length = 0 then x.c else 0) = q at hc ⊢
    rcases hs with hs | hs | hs <;> simp only [hs, if_true, Int.reduceEq, if_false] <;> omega
end Go.Proofs.Ytchkjiadnackaaa

/- What laws.vHas and laws.vInts answer. -/
namespace Go.Proofs.Ytchkjiadnackaaa
open Go.RowKit

def hasFrom (x : Int) (l : List Int) : Bool := l.any (fun y => decide (y = x))
set_option maxHeartbeats 1000000 in
theorem rInts_any (A B : Option Addr) (c d : Nat) (l : List Int) (w : World) (hA : IntsR w w.heap.size A l) (hB : IntsR w w.heap.size B l) :
    Calls Try.prog 21 #[.slice A l.length c, .slice B l.length d] w fun e w' => e = .returned (.bool true) ∧ Below w.heap.size w w' := by
  have hlA := hA.big
  have hrA := hA.ints
  have hrB := hB.ints
  have hbn : ((l.length : Int) != (l.length : Int)) = false := by simp
  go_enter Try.func21, Try.ntmps21
  go_wp2
  go_loopw [5] (fun i wr => ∃ k : Nat, k ≤ l.length ∧ i = .int .i64 k ∧ (∃ q : Since w.heap.size w, wr = q.val)) (fun i _ => l.length - (intOf i).toNat)
  case atStart => exact ⟨0, Nat.zero_le _, rfl, ⟨Since.start _ _, rfl⟩⟩
  case round =>
    obtain ⟨k, hk, rfl, ⟨q, rfl⟩⟩ := hrel
    by_cases hlt : k < l.length
    · obtain ⟨b, off, rfl, hb, hcell⟩ := hrA (by omega)
      obtain ⟨b', off', rfl, hb', hcell'⟩ := hrB (by omega)
      have c0 := hcell k hlt
      have d0 := hcell' k hlt
      generalize l[k] = y at c0 d0
      clear hcell hcell' hrA hrB
      go_wp2
      refine wp_region_since _ (by kernel_rfl) (by kernel_rfl) ?_
      repeat (any_goals (first | go_big_quiet_step ((fail)) | (refine wpQuiet_step (fun K hK => ?_); go_simp; split <;> (refine hK _ ?_; clear hK K))))
      all_goals (refine wpQuiet_nil ?_; rintro _ ⟨q1, rfl⟩)
      go_wp2
      go_roundw
      case rel => exact ⟨k + 1, by omega, by go_num, ⟨q1, rfl⟩⟩
      case measure => simp [intOf]; omega
    · go_wp2
      go_ret
      exact ⟨rfl, q.below⟩
end Go.Proofs.Ytchkjiadnackaaa

/- FnCopies: the laws' own comparing of phrases (rPhrase, rPhrases), where they are the same. -/
namespace Go.Proofs.Ytchkjiadnackaaa
open Go.RowKit

set_option maxHeartbeats 1000000 in
theorem rPhrase_yes (x y : Ph) (he : x.ph = y.ph) (w : World) (hx : IntsR w w.heap.size x.A x.f) (hy : IntsR w w.heap.size y.A y.f) :
    Calls Try.prog 46 #[x.val, y.val] w fun e w' => e = .returned (.bool true) ∧ Below w.heap.size w w' := by
  obtain ⟨s, c, A, f, ca, p⟩ := x
  obtain ⟨s', c', B, f', cb, p'⟩ := y
  simp only [Ph.ph, Prod.mk.injEq] at he
  obtain ⟨rfl, rfl, rfl, rfl⟩ := he
  simp only at hx hy
  have L1 := (Lies.new w 42 #[.int .i64 s, .int .i64 c, .slice A f.length ca, .int .i64 p]).alloc (.cells #[.int .i64 s, .int .i64 c, .slice B f.length cb, .int .i64 p] 42)
  have L2 := Lies.new1 w (.cells #[.int .i64 s, .int .i64 c, .slice A f.length ca, .int .i64 p] 42) 42 #[.int .i64 s, .int .i64 c, .slice B f.length cb, .int .i64 p]
  have b1 := (Below.refl w.heap.size w).alloc (Nat.le_refl _) (.cells #[.int .i64 s, .int .i64 c, .slice A f.length ca, .int .i64 p] 42)
  have b2 := b1.alloc b1.size (.cells #[.int .i64 s, .int .i64 c, .slice B f.length cb, .int .i64 p] 42)
  clear b1
  have x0 := L1.cell 0
  have x1 := L1.cell 1
  have x2 := L1.cell 2
  have x3 := L1.cell 3
  have y0 := L2.cell 0
  have y1 := L2.cell 1
  have y2 := L2.cell 2
  have y3 := L2.cell 3
  simp only [List.getElem?_cons_zero, List.getElem?_cons_succ] at x0 x1 x2 x3 y0 y1 y2 y3
  have hx2 := SlcR.up hx b2 (Nat.le_refl _)
  have hy2 := SlcR.up hy b2 (Nat.le_refl _)
  clear hx hy L1 L2
  go_enter Try.func46, Try.ntmps46
  go_upto_region 1 with fail
  generalize (w.alloc (.cells #[.int .i64 s, .int .i64 c, .slice A f.length ca, .int .i64 p] 42)).alloc (.cells #[.int .i64 s, .int .i64 c, .slice B f.length cb, .int .i64 p] 42) = W at b2 hx2 hy2 x0 x1 x2 x3 y0 y1 y2 y3 ⊢
  go_wp2_with fail
  refine (rInts_any A B ca cb f W hx2 hy2).mono ?_
  rintro e w1 ⟨rfl, hb⟩
  go_wp2
  go_ret
  exact ⟨rfl, bthen b2 hb⟩

set_option maxHeartbeats 1000000 in
theorem rPhrases_yes (A B : Option Addr) (c d : Nat) (l m : List Ph) (hlm : l.map Ph.ph = m.map Ph.ph) (w : World) (hA : PhsR w w.heap.size A l) (hB : PhsR w w.heap.size B m) :
    Calls Try.prog 16 #[.slice A l.length c, .slice B m.length d] w fun e w' => e = .returned (.bool true) ∧ Below w.heap.size w w' := by
  have hlen : m.length = l.length := by have := congrArg List.length hlm; simpa using this.symm
  have hlA := hA.slc.big
  have hrA := hA.ph
  have hrB := hB.ph
  have HFA : Hid (∀ i (hi : i < l.length), IntsR w w.heap.size l[i].A l[i].f) := fun i hi => hA.f hi
  have HFB : Hid (∀ i (hi : i < m.length), IntsR w w.heap.size m[i].A m[i].f) := fun i hi => hB.f hi
  have HL := Lib.hid hlm
  have eg := Try.call46
  have hbn : ((l.length : Int) != (l.length : Int)) = false := by simp
  rw [hlen]
  have Hlen := Lib.hid hlen
  clear hlen hlm hA hB
  go_enter Try.func16, Try.ntmps16
  go_wp2
  go_loopw [5] (fun i wr => ∃ k : Nat, k ≤ l.length ∧ i = .int .i64 k ∧ (∃ q : Since w.heap.size w, wr = q.val)) (fun i _ => l.length - (intOf i).toNat)
  case atStart => exact ⟨0, Nat.zero_le _, rfl, ⟨Since.start _ _, rfl⟩⟩
  case round =>
    obtain ⟨k, hk, rfl, ⟨q, rfl⟩⟩ := hrel
    by_cases hlt : k < l.length
    · have hltm : k < m.length := by rw [Hlen.out]; exact hlt
      obtain ⟨b, off, rfl, hb, hcell⟩ := hrA (by omega)
      obtain ⟨b', off', rfl, hb', hcell'⟩ := hrB (by omega)
      obtain ⟨c0, c1, c2, c3⟩ := hcell k hlt
      obtain ⟨d0, d1, d2, d3⟩ := hcell' k hltm
      have hxe : l[k].ph = m[k].ph := by
        have h1 : (l.map Ph.ph)[k]? = (m.map Ph.ph)[k]? := by rw [HL.out]
        rw [List.getElem?_map, List.getElem?_map, List.getElem?_eq_getElem hlt, List.getElem?_eq_getElem hltm] at h1
        simpa using h1
      have HC : Hid (∀ p : Since w.heap.size w, Calls Try.prog 46 #[l[k].val, m[k].val] p.val fun e w' => e = .returned (.bool true) ∧ Below p.val.heap.size p.val w') := fun p =>
        rPhrase_yes _ _ hxe _ (SlcR.up (HFA.out k hlt) p.below (Nat.le_refl _)) (SlcR.up (HFB.out k hltm) p.below (Nat.le_refl _))
      clear hxe
      obtain ⟨x, hx⟩ : ∃ x, x = l[k] := ⟨_, rfl⟩
      obtain ⟨y, hy⟩ : ∃ y, y = m[k] := ⟨_, rfl⟩
      rw [← hx] at c0 c1 c2 c3 HC
      rw [← hy] at d0 d1 d2 d3 HC
      clear hx hy hcell hcell' hrA hrB
      have hqs := q.size
      go_wp2_with fail
      refine wp_region_since _ (by kernel_rfl) (by kernel_rfl) ?_
      repeat (any_goals (first | go_big_quiet_step ((refine calls_since (Nat.le_refl _) (HC.out _))) | (refine wpQuiet_step (fun K hK => ?_); go_simp; split <;> (refine hK _ ?_; clear hK K))))
      all_goals (refine wpQuiet_nil ?_; rintro _ ⟨q1, rfl⟩)
      go_wp2
      go_roundw
      case rel => exact ⟨k + 1, by omega, by go_num, ⟨q1, rfl⟩⟩
      case measure => simp [intOf]; omega
    · go_wp2
      go_ret
      exact ⟨rfl, q.below⟩
end Go.Proofs.Ytchkjiadnackaaa
