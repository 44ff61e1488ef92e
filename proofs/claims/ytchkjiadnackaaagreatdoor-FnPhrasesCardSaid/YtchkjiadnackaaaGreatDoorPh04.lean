/- Ph04: the texts DrawPhs LogM Bl Emp Strs Num ShortW Short, joined into one file. -/
import Derived.Lib.ItoaNum
import Derived.Lib.ItoaLen
import Derived.Lib.IndexLaws
import Derived.Lib.LastIndexLaws
import Derived.Lib.IndexMore
import Derived.Test.YtchkjiadnackaaaGreatDoorProg
import Derived.Test.YtchkjiadnackaaaGreatDoorPh01
import Derived.Test.YtchkjiadnackaaaGreatDoorPh02
import Derived.Test.YtchkjiadnackaaaGreatDoorPh03

set_option linter.unusedVariables false

/- The reference draws phrases. (Printed by gen_dphs.py) -/
namespace Go.Proofs.YtchkjiadnackaaaGreatDoor
open Go.RowKit

theorem Env.wroteV {w W W' : World} {g : Nat} {A : Option Addr} {bs : List UInt8} {cap m B k n : Nat} {e : TypeId} {v : Value} {xs : List Value} (E : Env w W g A bs cap m) (ho : W.ownsRow B e k v n xs) (hg : W.grownBy W' v.ownBlock) (hB : w.heap.size ≤ B) (hgB : g < B) : Env w W' g A bs cap m := by
  cases hv : v.ownBlock with
  | none => rw [hv] at hg; exact E.below ⟨hg.os, hg.tape, hg.output, hg.size, fun j hj => hg.block j hj (by simp)⟩
  | some b => rw [hv] at hg; have := (ho.lt b hv).1; exact E.wrote hg (by omega) (by omega)
theorem ownsRow_gr {W W' : World} {B k n g : Nat} {e : TypeId} {v : Value} {xs : List Value} (h : W.ownsRow B e k v n xs) (hg : W.grownBy W' (some g)) (hB : g < B) : W'.ownsRow B e k v n xs :=
  h.kept hg (by
    cases hv : v.ownBlock with
    | none => left; rfl
    | some b => right; have := (h.lt b hv).1; intro e; injection e; omega)
theorem ownsRow_off {W W' : World} {B k n g : Nat} {e : TypeId} {v : Value} {xs : List Value} (h : W.ownsRow B e k v n xs) (hg : W.grownBy W' (some g)) (hB : ∀ b, v.ownBlock = some b → b < g) : W'.ownsRow B e k v n xs :=
  h.kept hg (by
    cases hv : v.ownBlock with
    | none => left; rfl
    | some b => right; have := hB b hv; intro e; injection e; omega)
theorem grown_row {W W' W'' : World} {B k n g : Nat} {e : TypeId} {v : Value} {xs : List Value} (G : W.grownBy W' (some g)) (ho : W'.ownsRow B e k v n xs) (hg : W'.grownBy W'' v.ownBlock) (hB : W.heap.size ≤ B) : W.grownBy W'' (some g) := by
  cases hv : v.ownBlock with
  | none => rw [hv] at hg; exact grown_trans G ⟨hg.os, hg.tape, hg.output, hg.size, fun j hj _ => hg.block j hj (by simp)⟩
  | some b => rw [hv] at hg; have := (ho.lt b hv).1; exact grown_own G hg (by omega)
theorem RowPh.gr {w w' : World} {B g : Nat} {v : Value} {l : List Ph} (h : RowPh w B v l) (hg : w.grownBy w' (some g)) (hB : g < B) : RowPh w' B v l :=
  ⟨ownsRow_gr h.row hg hB, fun x hx => (h.fs x hx).gr hg hB, h.nd⟩
/-- The phrases drawn so far. -/
structure DPs (w W wx : World) (g : Nat) (A : Option Addr) (bs : List UInt8) (cap m : Nat) (l : List Ph) (v : Value) : Prop where
  env : Env w wx g A bs cap m
  own : RowPh wx W.heap.size v l
  gr : W.grownBy wx (some g)
/-- And one more, in block gp, that is to come to them. -/
structure DQs (w W wx : World) (g : Nat) (A : Option Addr) (bs : List UInt8) (cap m B1 : Nat) (l : List Ph) (v : Value) (gp : Nat) (y : Ph) : Prop where
  env : Env w wx g A bs cap m
  own : RowPh wx W.heap.size v l
  gr : W.grownBy wx (some g)
  now : Lies wx gp 26 y.enc
  oy : OwnS wx B1 3 1 y.A y.f.length (encIs y.f)
  low : ∀ b, v.ownBlock = some b → b < B1
  lowf : ∀ x ∈ l, ∀ b, x.A.map (·.block) = some b → b < B1
  hb : B1 ≤ gp
  hB : W.heap.size ≤ B1
section
variable {w W wx wy : World} {g : Nat} {A : Option Addr} {bs : List UInt8} {cap m m' B1 gp : Nat} {l : List Ph} {v v' : Value} {y z : Ph}
theorem DPs.mono (h : DPs w W wx g A bs cap m l v) (hm : m ≤ m') : DPs w W wx g A bs cap m' l v := { h with env := h.env.mono hm }
theorem DPs.next (h : DPs w W wx g A bs cap m l v) (E : Env w wy g A bs cap m') (hg : wx.grownBy wy (some g)) (hB : g < W.heap.size) : DPs w W wy g A bs cap m' l v := ⟨E, h.own.gr hg hB, grown_trans h.gr hg⟩
theorem DPs.fresh (E : Env w wx g A bs cap m) (G : W.grownBy wx (some g)) : DPs w W (wx.alloc (.cells #[] 26)) g A bs cap m [] (.slice (some ⟨wx.heap.size, 0, none⟩) 0 0) :=
  ⟨E.alloc _, ⟨owns_empty (Lies.new wx 26 #[]) G.size, by simp, List.Pairwise.nil⟩, grown_alloc G _⟩
theorem OwnS.hi {w : World} {B : Nat} {t : TypeId} {k : Nat} {A : Option Addr} {n : Nat} {cs : List Value} (h : OwnS w B t k A n cs) : ∀ b, A.map (·.block) = some b → b < w.heap.size := by
  obtain ⟨hl, hn, ⟨h0, _⟩ | ⟨q, rest, hA, hq, hh⟩⟩ := h
  · subst h0; intro b e; cases e
  · subst hA; intro b e; injection e with e; subst e; exact hh.lt
theorem OwnS.alloc {w : World} {B : Nat} {t : TypeId} {k : Nat} {A : Option Addr} {n : Nat} {cs : List Value} (h : OwnS w B t k A n cs) (o : Obj) : OwnS (w.alloc o) B t k A n cs := h.then ((Below.refl w.heap.size w).alloc (Nat.le_refl _) o)
theorem RowPh.alloc {w : World} {B : Nat} {v : Value} {l : List Ph} (h : RowPh w B v l) (o : Obj) : RowPh (w.alloc o) B v l := h.below ((Below.refl w.heap.size w).alloc (Nat.le_refl _) o)
theorem DPs.one (h : DPs w W wx g A bs cap m l v) (E : Env w wy g A bs cap m') (hg : wx.grownBy wy (some g)) (hB : g < W.heap.size) (ho : OwnS wy wx.heap.size 3 1 y.A y.f.length (encIs y.f)) : DQs w W (wy.alloc (.cells y.enc.toArray 26)) g A bs cap m' wx.heap.size l v wy.heap.size y :=
  ⟨E.alloc _, (h.own.gr hg hB).alloc _, grown_alloc (grown_trans h.gr hg) _, by have := Lies.new wy 26 y.enc.toArray; simpa using this, ho.alloc _, fun b e => (h.own.row.lt b e).2, fun x hx b e => (h.own.fs x hx).hi b e, hg.size, h.gr.size⟩
theorem DQs.next (h : DQs w W wx g A bs cap m B1 l v gp y) (E : Env w wy g A bs cap m') (hg : wx.grownBy wy (some g)) (hB : g < W.heap.size) : DQs w W wy g A bs cap m' B1 l v gp y :=
  ⟨E, h.own.gr hg hB, grown_trans h.gr hg, h.now.kept hg (by intro e; injection e with e; have := h.hb; have := h.hB; omega), h.oy.gr hg (by have := h.hB; omega), h.low, h.lowf, h.hb, h.hB⟩
theorem DQs.below (h : DQs w W wx g A bs cap m B1 l v gp y) (hb : Below wx.heap.size wx wy) : DQs w W wy g A bs cap m B1 l v gp y :=
  ⟨h.env.below hb, h.own.below hb, grown_trans h.gr (grownAny hb _), h.now.below hb h.now.lt, h.oy.then hb, h.low, h.lowf, h.hb, h.hB⟩
theorem DQs.alloc (h : DQs w W wx g A bs cap m B1 l v gp y) (o : Obj) : DQs w W (wx.alloc o) g A bs cap m B1 l v gp y := h.below ((Below.refl wx.heap.size wx).alloc (Nat.le_refl _) o)
theorem DQs.put (h : DQs w W wx g A bs cap m B1 l v gp y) (hg : wx.grownBy wy (some gp)) (hL : Lies wy gp 26 z.enc) (ho : OwnS wx B1 3 1 z.A z.f.length (encIs z.f)) (hgB : g < W.heap.size) (hw : w.heap.size ≤ W.heap.size) : DQs w W wy g A bs cap m B1 l v gp z :=
  ⟨h.env.wrote hg (by have := h.hb; have := h.hB; omega) (by have := h.hb; have := h.hB; omega),
   ⟨ownsRow_off h.own.row hg (fun b e => by have := h.low b e; have := h.hb; omega), fun x hx => (h.own.fs x hx).ne hg (fun b e => by have := h.lowf x hx b e; have := h.hb; omega), h.own.nd⟩,
   grown_own h.gr hg (by have := h.hb; have := h.hB; omega), hL, ho.ne hg (ho.off h.now ne_int_ph), h.low, h.lowf, h.hb, h.hB⟩
theorem DQs.push (h : DQs w W wx g A bs cap m B1 l v gp y) (ho : wy.ownsRow W.heap.size 26 4 v' (l.length + 1) (l.flatMap Ph.enc ++ y.enc)) (hg : wx.grownBy wy v.ownBlock) (hB : g < W.heap.size) (hw : w.heap.size ≤ W.heap.size) : DPs w W wy g A bs cap m (l ++ [y]) v' := by
  refine ⟨h.env.wroteV h.own.row hg hw hB, ⟨by simpa using ho, fun x hx => ?_, ?_⟩, grown_row h.gr h.own.row hg (Nat.le_refl _)⟩
  · rcases List.mem_append.1 hx with hx | hx
    · exact (h.own.fs x hx).grown h.own.row ne_types hg
    · rw [List.mem_singleton] at hx; subst hx
      exact (h.oy.lower h.hB).grown h.own.row ne_types hg
  · rw [List.pairwise_append]
    refine ⟨h.own.nd, List.pairwise_singleton _ _, fun a ha b hb' => ?_⟩
    rw [List.mem_singleton] at hb'; subst hb'
    cases hA : a.A with
    | none => exact .inl rfl
    | some q =>
      refine .inr fun e => ?_
      have h1 := h.lowf a ha q.block (by rw [hA]; rfl)
      have h2 := h.oy.ge q.block (by rw [← e]; rfl)
      omega
end
theorem DPs.pushN {w W wx wy : World} {g : Nat} {A : Option Addr} {bs : List UInt8} {cap m : Nat} {l : List Ph} {v v' : Value} {y : Ph} (h : DPs w W wx g A bs cap m l v) (hA : y.A = none) (hf : y.f = []) (ho : wy.ownsRow W.heap.size 26 4 v' (l.length + 1) (l.flatMap Ph.enc ++ y.enc)) (hg : wx.grownBy wy v.ownBlock) (hB : g < W.heap.size) (hw : w.heap.size ≤ W.heap.size) : DPs w W wy g A bs cap m (l ++ [y]) v' := by
  refine ⟨h.env.wroteV h.own.row hg hw hB, ⟨by simpa using ho, fun x hx => ?_, ?_⟩, grown_row h.gr h.own.row hg (Nat.le_refl _)⟩
  · rcases List.mem_append.1 hx with hx | hx
    · exact (h.own.fs x hx).grown h.own.row ne_types hg
    · rw [List.mem_singleton] at hx; subst hx
      rw [hA, hf]; exact ⟨rfl, by simp, .inl ⟨rfl, rfl⟩⟩
  · rw [List.pairwise_append]
    refine ⟨h.own.nd, List.pairwise_singleton _ _, fun a ha b hb' => ?_⟩
    rw [List.mem_singleton] at hb'; subst hb'
    by_cases e : a.A = none
    · exact .inl e
    · rw [hA]; exact .inr e

set_option maxRecDepth 100000 in
set_option maxHeartbeats 8000000 in
set_option linter.unusedVariables false in
theorem phrases30_any (g : Nat) (A : Option Addr) (bs : List UInt8) (cap m : Nat) (w W : World) (hm : m ≤ 700000000) (E0 : Env w W g A bs cap m) :
    Calls Tryz.prog 33 #[.pointer (some ⟨g, 0, none⟩)] W fun e w' => ∃ (l : List Ph) (v : Value), e = .returned v ∧ l.length ≤ 13 ∧ (∀ x ∈ l, x.f.length ≤ 9) ∧ DPs w W w' g A bs cap (m + 2000) l v := by
  have hgW := E0.lt
  have hwW := E0.gr.size
  have S1 := DPs.fresh (W := W) E0 (World.grownBy.refl W (some g))
  go_enter Tryz.func33, Tryz.ntmps33
  go_wp2_with fail
  generalize W.alloc (.cells #[] 26) = W1 at S1 ⊢
  generalize (Value.slice (some ⟨W.heap.size, 0, none⟩) 0 0) = v0 at S1 ⊢
  refine (pick_env S1.env 7 (by omega) (by omega)).mono ?_
  rintro e W3 ⟨n, rfl, hn, E3, gr⟩
  have HS := Lib.hid ((S1.next E3 gr hgW).mono (show _ ≤ m + 10 + 120 * (6 - n) by omega))
  clear gr E3 S1 E0
  go_wp2_with fail
  go_loopw [3, 4, 5, 6, 7] (fun o i _ _ _ wr => ∃ (k : Nat) (l : List Ph), k ≤ 6 ∧ i = .int .i64 k ∧ l.length + k ≤ 6 ∧ (∀ x ∈ l, x.f.length ≤ 9) ∧ Hid (DPs w W wr g A bs cap (m + 10 + 120 * (6 - k)) l o)) (fun _ i _ _ _ _ => (intOf i).toNat)
  case atStart => exact ⟨n, [], by omega, rfl, by simp; omega, by simp, HS⟩
  case round =>
    clear HS hn
    obtain ⟨k, l, hk, rfl, hl, h9, HS⟩ := hrel
    have H9 := Lib.hid h9; clear h9
    by_cases hlt : 0 < k
    · obtain ⟨k, rfl⟩ : ∃ q, k = q + 1 := ⟨k - 1, by omega⟩
      clear hlt
      have hi0 : (0 : Int) < ((k + 1 : Nat) : Int) := by omega
      obtain ⟨A6, c6, rfl⟩ := HS.out.own.form
      go_wp2_with fail
      refine (phrase30_any g A bs cap _ w wr (by omega) HS.out.env).mono ?_
      rintro e W4 ⟨x, rfl, hx9, ho4, E4, gr4⟩
      have S5 := HS.out.one E4 gr4 hgW ho4
      clear HS E4 gr4 ho4
      generalize wr.heap.size = B1 at S5
      go_upto_region 6 with fail
      have S5' : DQs w W (W4.alloc (.cells #[.int .i64 x.s, .int .i64 x.c, .slice x.A x.f.length x.cap, .int .i64 x.p] 26)) g A bs cap (m + 10 + 120 * (6 - (k + 1)) + 100) B1 l (.slice A6 l.length c6) W4.heap.size x := S5
      clear S5
      generalize W4.alloc (.cells #[.int .i64 x.s, .int .i64 x.c, .slice x.A x.f.length x.cap, .int .i64 x.p] 26) = W5 at S5' ⊢
      generalize W4.heap.size = gp at S5' ⊢
      by_cases h0 : l.length = 0
      · have hl0 : ¬ (0 : Int) < (l.length : Int) := by omega
        have HSq := Lib.hid S5'
        clear S5' h0
        have K := HSq.out.now
        simp only [Ph.enc] at K
        have d0 := K.cell 0
        have d1 := K.cell 1
        have d2 := K.cell 2
        have d3 := K.cell 3
        simp only [List.getElem?_cons_zero, List.getElem?_cons_succ] at d0 d1 d2 d3
        have HO := Lib.hid HSq.out.own.row
        have hz := HSq.out.gr.size
        clear K
        go_wp2_with (at_builtin; refine wpList_push (w0 := W5) rfl _ _ 35 rfl 26 _ 4 48 Tryz.underlying35 infoPh rfl (by decide) (by omega) W.heap.size _ _ _ rfl HO #[.int .i64 x.s, .int .i64 x.c, .slice x.A x.f.length x.cap, .int .i64 x.p] 1 _ rfl (by first | rfl | exact Array.size_push _) rfl (by simp [Value.oneCell']) (by omega) hz rfl rfl rfl rfl ?_; intro v' W12 HO12 hg12 _)
        have HS12 := Lib.hid ((HSq.out.push (y := x) HO12.out hg12 hgW hwW).mono (show _ ≤ m + 10 + 120 * (6 - k) by omega))
        clear HSq HO HO12 hg12
        go_roundw
        case rel => exact ⟨k, l ++ [x], by omega, by go_num, (by simp; omega), (by intro z hz; rcases List.mem_append.1 hz with h | h; exact H9.out z h; rw [List.mem_singleton] at h; subst h; exact hx9), HS12⟩
        case measure => simp [intOf] <;> omega
      · have hl0 : (0 : Int) < (l.length : Int) := by omega
        go_wp2_with fail
        refine (one_env S5'.env 3 (by omega) (by omega)).mono ?_
        rintro e W6 ⟨q, rfl, E6, gr6⟩
        have S6 := S5'.next E6 gr6 hgW
        clear E6 gr6 S5'
        cases q
        · have HSq := Lib.hid S6
          clear S6 h0
          have K := HSq.out.now
          simp only [Ph.enc] at K
          have d0 := K.cell 0
          have d1 := K.cell 1
          have d2 := K.cell 2
          have d3 := K.cell 3
          simp only [List.getElem?_cons_zero, List.getElem?_cons_succ] at d0 d1 d2 d3
          have HO := Lib.hid HSq.out.own.row
          have hz := HSq.out.gr.size
          clear K
          go_wp2_with (at_builtin; refine wpList_push (w0 := W6) rfl _ _ 35 rfl 26 _ 4 48 Tryz.underlying35 infoPh rfl (by decide) (by omega) W.heap.size _ _ _ rfl HO #[.int .i64 x.s, .int .i64 x.c, .slice x.A x.f.length x.cap, .int .i64 x.p] 1 _ rfl (by first | rfl | exact Array.size_push _) rfl (by simp [Value.oneCell']) (by omega) hz rfl rfl rfl rfl ?_; intro v' W12 HO12 hg12 _)
          have HS12 := Lib.hid ((HSq.out.push (y := x) HO12.out hg12 hgW hwW).mono (show _ ≤ m + 10 + 120 * (6 - k) by omega))
          clear HSq HO HO12 hg12
          go_roundw
          case rel => exact ⟨k, l ++ [x], by omega, by go_num, (by simp; omega), (by intro z hz; rcases List.mem_append.1 hz with h | h; exact H9.out z h; rw [List.mem_singleton] at h; subst h; exact hx9), HS12⟩
          case measure => simp [intOf] <;> omega
        · go_wp2_with fail
          refine (pick_env S6.env l.length (by omega) (by omega)).mono ?_
          rintro e W7 ⟨j, rfl, hj, E7, gr7⟩
          have S7 := S6.next E7 gr7 hgW
          clear E7 gr7 S6
          have hj2 : j < l.length := by omega
          obtain ⟨b, off, rfl, hbb, hcell⟩ := S7.own.reads.ph (by omega)
          obtain ⟨c0, c1, c2, c3⟩ := hcell j hj2
          have hzf : IntsR W7 W7.heap.size l[j].A l[j].f := S7.own.reads.f hj2
          have hz9 := H9.out l[j] (List.getElem_mem hj2)
          have HZN : Hid (∀ b, l[j].A.map (·.block) = some b → b ≠ gp) := fun b e => by have := S7.lowf l[j] (List.getElem_mem hj2) b e; have := S7.hb; omega
          obtain ⟨z, hze⟩ : ∃ z, z = l[j] := ⟨_, rfl⟩
          rw [← hze] at c0 c1 c2 c3 hzf hz9 HZN
          clear hze hcell hj
          have k0 := c0 (Since.start _ _)
          have k1 := c1 (Since.start _ _)
          have k2 := c2 (Since.start _ _)
          have k3 := c3 (Since.start _ _)
          change W7.cell? _ = _ at k0
          change W7.cell? _ = _ at k1
          change W7.cell? _ = _ at k2
          change W7.cell? _ = _ at k3
          clear c0 c1 c2 c3
          have S8 := S7.alloc (.cells #[.int .i64 z.s, .int .i64 z.c, .slice z.A z.f.length z.cap, .int .i64 z.p] 26)
          have L8 := Lies.new W7 26 #[.int .i64 z.s, .int .i64 z.c, .slice z.A z.f.length z.cap, .int .i64 z.p]
          have hg8 : gp < W7.heap.size := S7.now.lt
          have hzf8 := hzf.then ((Below.refl W7.heap.size W7).alloc (Nat.le_refl _) (.cells #[.int .i64 z.s, .int .i64 z.c, .slice z.A z.f.length z.cap, .int .i64 z.p] 26))
          have HS7 := Lib.hid S7
          clear S7 hzf
          go_upto_region 9 with fail
          clear k0 k1 k2 k3 HS7
          generalize W7.alloc (.cells #[.int .i64 z.s, .int .i64 z.c, .slice z.A z.f.length z.cap, .int .i64 z.p] 26) = W8 at S8 L8 hzf8 ⊢
          generalize W7.heap.size = gz at L8 hg8 hbb ⊢
          -- the state and the price
          have K8 := S8.now
          simp only [Ph.enc] at K8
          have d0 := K8.cell 0
          have d1 := K8.cell 1
          have d2 := K8.cell 2
          have d3 := K8.cell 3
          simp only [List.getElem?_cons_zero, List.getElem?_cons_succ] at d0 d1 d2 d3
          have fd0 := K8.frozen 0
          have fd1 := K8.frozen 1
          have fd2 := K8.frozen 2
          have fd3 := K8.frozen 3
          have e0 := L8.cell 0
          have e1 := L8.cell 1
          have e2 := L8.cell 2
          have e3 := L8.cell 3
          simp only [List.getElem?_cons_zero, List.getElem?_cons_succ] at e0 e1 e2 e3
          have gw : W8.grownBy ((W8.setCell ⟨gp, 0, none⟩ (.int .i64 z.s)).setCell ⟨gp, 3, none⟩ (.int .i64 z.p)) (some gp) := grown_set (grown_set (World.grownBy.refl _ _))
          have kw : Lies ((W8.setCell ⟨gp, 0, none⟩ (.int .i64 z.s)).setCell ⟨gp, 3, none⟩ (.int .i64 z.p)) gp 26 (Ph.enc { s := z.s, c := x.c, f := x.f, p := z.p, A := x.A, cap := x.cap }) := (K8.set 0 (.int .i64 z.s)).set 3 (.int .i64 z.p)
          have S9 := Lib.hid (S8.put gw kw S8.oy hgW hwW)
          have HL9 := Lib.hid (L8.kept gw (by intro e; injection e; omega))
          have HZ9 : Hid (IntsR ((W8.setCell ⟨gp, 0, none⟩ (.int .i64 z.s)).setCell ⟨gp, 3, none⟩ (.int .i64 z.p)) ((W8.setCell ⟨gp, 0, none⟩ (.int .i64 z.s)).setCell ⟨gp, 3, none⟩ (.int .i64 z.p)).heap.size z.A z.f) := SlcR.gr hzf8 HZN.out gw
          clear gw kw K8 S8 hzf8
          go_upto_region 11 with fail
          obtain ⟨W9, hW9⟩ : ∃ W9, (W8.setCell ⟨gp, 0, none⟩ (.int .i64 z.s)).setCell ⟨gp, 3, none⟩ (.int .i64 z.p) = W9 := ⟨_, rfl⟩
          rw [hW9] at S9 HL9 HZ9 ⊢
          clear hW9 d0 d1 d2 d3 fd0 fd1 fd2 fd3 e0 e1 e2 e3
          have S9 := S9.out; have L9 := HL9.out; have hz9r := HZ9.out
          clear HL9 HZ9
          have HO : Hid ((W9.alloc (.cells #[] 3)).ownsRow W9.heap.size 3 1 (.slice (some ⟨W9.heap.size, 0, none⟩) 0 0) 0 []) := owns_empty (Lies.new W9 3 #[]) (Nat.le_refl _)
          have b1 := (Below.refl W9.heap.size W9).alloc (Nat.le_refl _) (.cells #[] 3)
          have HR := Lib.hid (SlcR.below hz9r b1)
          have HB1 := Lib.hid b1
          have hb1s := b1.size
          have LA := L9.alloc (.cells #[] 3)
          have e0 := LA.cell 0
          have e1 := LA.cell 1
          have e2 := LA.cell 2
          have e3 := LA.cell 3
          simp only [List.getElem?_cons_zero, List.getElem?_cons_succ] at e0 e1 e2 e3
          have HS9 := Lib.hid S9
          have hB9 : B1 ≤ W9.heap.size := by have := S9.hb; have := S9.now.lt; omega
          have K9 := S9.now
          simp only [Ph.enc] at K9
          have d0 := K9.cell 0
          have d1 := K9.cell 1
          have d2 := K9.cell 2
          have d3 := K9.cell 3
          simp only [List.getElem?_cons_zero, List.getElem?_cons_succ] at d0 d1 d2 d3
          have fd0 := K9.frozen 0
          have fd1 := K9.frozen 1
          have fd2 := K9.frozen 2
          have fd3 := K9.frozen 3
          clear b1 S9 L9 LA K9 hz9r
          go_upto_region 12 with (at_builtin; refine wpList_cat rfl _ _ 24 rfl 3 (.int .i64 0) 1 8 Tryz.underlying24 infoI rfl (by omega) (by omega) W9.heap.size _ 0 [] rfl HO W9.heap.size z.A z.f.length z.cap (encIs z.f) rfl HR ints_one (by omega) hb1s ?_; intro v9 W10 hown _ hb2 _; obtain ⟨A9, c9, rfl⟩ := ownsRow_slice hown.out; have K10 := (HS9.out.below (HB1.out.trans hb2)).now; simp only [Ph.enc] at K10; have d0 := K10.cell 2; have fd0 := K10.frozen 2; simp only [List.getElem?_cons_zero, List.getElem?_cons_succ] at d0)
          have hown' : W10.ownsRow W9.heap.size 3 1 (.slice A9 z.f.length c9) z.f.length (encIs z.f) := by have := hown.out; simpa using this
          have SB := HS9.out.below (HB1.out.trans hb2)
          have gw : W10.grownBy (W10.setCell ⟨gp, 2, none⟩ (.slice A9 z.f.length c9)) (some gp) := grown_set (World.grownBy.refl _ _)
          have kw : Lies (W10.setCell ⟨gp, 2, none⟩ (.slice A9 z.f.length c9)) gp 26 (Ph.enc { s := z.s, c := x.c, f := z.f, p := z.p, A := A9, cap := c9 }) := K10.set 2 _
          have HSq := Lib.hid (SB.put gw kw ((OwnS.of hown').lower hB9) hgW hwW)
          obtain ⟨W11, hW11⟩ : ∃ W11, W10.setCell ⟨gp, 2, none⟩ (.slice A9 z.f.length c9) = W11 := ⟨_, rfl⟩
          rw [hW11] at HSq ⊢
          clear hW11 gw kw SB hown' K10 hown HS9 HB1 HR HO d0 d1 d2 d3 fd0 fd1 fd2 fd3 e0 e1 e2 e3 HZN hb1s hB9 hg8 hbb hb2 h0
          have K := HSq.out.now
          simp only [Ph.enc] at K
          have d0 := K.cell 0
          have d1 := K.cell 1
          have d2 := K.cell 2
          have d3 := K.cell 3
          simp only [List.getElem?_cons_zero, List.getElem?_cons_succ] at d0 d1 d2 d3
          have HO := Lib.hid HSq.out.own.row
          have hz := HSq.out.gr.size
          clear K
          go_wp2_with (at_builtin; refine wpList_push (w0 := W11) rfl _ _ 35 rfl 26 _ 4 48 Tryz.underlying35 infoPh rfl (by decide) (by omega) W.heap.size _ _ _ rfl HO #[.int .i64 z.s, .int .i64 x.c, .slice A9 z.f.length c9, .int .i64 z.p] 1 _ rfl (by first | rfl | exact Array.size_push _) rfl (by simp [Value.oneCell']) (by omega) hz rfl rfl rfl rfl ?_; intro v' W12 HO12 hg12 _)
          have HS12 := Lib.hid ((HSq.out.push (y := { s := z.s, c := x.c, f := z.f, p := z.p, A := A9, cap := c9 }) HO12.out hg12 hgW hwW).mono (show _ ≤ m + 10 + 120 * (6 - k) by omega))
          clear HSq HO HO12 hg12
          go_roundw
          case rel => exact ⟨k, l ++ [{ s := z.s, c := x.c, f := z.f, p := z.p, A := A9, cap := c9 }], by omega, by go_num, (by simp; omega), (by intro z hz; rcases List.mem_append.1 hz with h | h; exact H9.out z h; rw [List.mem_singleton] at h; subst h; exact hz9), HS12⟩
          case measure => simp [intOf] <;> omega
    · obtain rfl : k = 0 := by omega
      clear hlt
      have hi0 : ¬ (0 : Int) < ((0 : Nat) : Int) := by omega
      go_wp2_with fail
      refine (one_env HS.out.env 24 (by omega) (by omega)).mono ?_
      rintro e W4 ⟨q, rfl, E4, gr⟩
      have S4 := HS.out.next E4 gr hgW
      clear gr E4 HS
      cases q
      · have HS4 := Lib.hid (S4.mono (show _ ≤ m + 2000 by omega))
        clear S4
        go_wp2_with fail
        go_ret
        exact ⟨l, _, rfl, by omega, H9.out, HS4.out⟩
      · have S5 := DPs.fresh (W := W) S4.env S4.gr
        clear S4
        go_wp2_with fail
        generalize W4.alloc (.cells #[] 26) = W5 at S5 ⊢
        generalize (Value.slice (some ⟨W4.heap.size, 0, none⟩) 0 0) = v5 at S5 ⊢
        have HS := Lib.hid (S5.mono (show _ ≤ m + 10 + 120 * 6 + 10 + 4 * 0 by omega))
        clear S5 H9
        go_loopw [3, 8] (fun o i wr => ∃ (k : Nat) (l : List Ph), k ≤ 11 ∧ i = .int .i64 k ∧ l.length = k ∧ (∀ x ∈ l, x.f.length ≤ 9) ∧ Hid (DPs w W wr g A bs cap (m + 10 + 120 * 6 + 10 + 4 * k) l o)) (fun _ i _ => 14 - (intOf i).toNat)
        case atStart => exact ⟨0, [], by omega, rfl, rfl, by simp, HS⟩
        case round =>
          clear HS hl l
          obtain ⟨k, l, hk, rfl, hl, h9, HS⟩ := hrel
          have H9 := Lib.hid h9; clear h9
          have HLK := Lib.hid hl
          have hlk : l.length ≤ 11 := by omega
          clear hl
          obtain ⟨A6, c6, rfl⟩ := HS.out.own.form
          go_wp2_with fail
          refine (pick_env HS.out.env 2 (by omega) (by omega)).mono ?_
          rintro e W6 ⟨x, rfl, hx, E6, gr⟩
          have S6 := HS.out.next E6 gr hgW
          clear gr E6 HS
          have hw0 : IntKind.i64.wrap (10 + (x : Int)) = 10 + (x : Int) := IntWalk.i64_in _ (by omega)
          by_cases hlt : k < 10 + x
          · have hlt' : (k : Int) < 10 + (x : Int) := by omega
            have hw1 : IntKind.i64.wrap ((k : Int) + 1) = (k : Int) + 1 := IntWalk.i64_in _ (by omega)
            have hw2 : IntKind.i64.wrap (1 + (k : Int)) = 1 + (k : Int) := IntWalk.i64_in _ (by omega)
            have hm3 : (k : Int).tmod 3 = (k : Int) % 3 := Int.tmod_eq_emod_of_nonneg (by omega)
            have hw3 : IntKind.i64.wrap ((k : Int) % 3) = (k : Int) % 3 := IntWalk.i64_in _ (by omega)
            have hw4 : IntKind.i64.wrap (1 + (k : Int) % 3) = 1 + (k : Int) % 3 := IntWalk.i64_in _ (by omega)
            have HO := Lib.hid S6.own.row
            have hz := S6.gr.size
            have HS6 := Lib.hid S6
            have hlt2 := Lib.hid hlt
            clear S6 hlt
            go_upto_region 17 with (at_builtin; refine wpList_push (w0 := W6) rfl _ _ 35 rfl 26 _ 4 48 Tryz.underlying35 infoPh rfl (by decide) (by omega) W.heap.size _ _ _ rfl HO #[.int .i64 (1 + (k : Int) % 3), .int .i64 (1 + (k : Int)), .slice none 0 0, .int .i64 (k : Int)] 1 _ rfl (by first | rfl | exact Array.size_push _) rfl (by simp [Value.oneCell']) (by omega) hz rfl rfl rfl rfl ?_; intro v' W12 HO12 hg12 _)
            have HS12 := Lib.hid ((HS6.out.pushN (y := { s := 1 + (k : Int) % 3, c := 1 + (k : Int), f := [], p := (k : Int), A := none, cap := 0 }) rfl rfl HO12.out hg12 hgW hwW).mono (show _ ≤ m + 10 + 120 * 6 + 10 + 4 * (k + 1) by omega))
            clear HS6 HO HO12 hg12 hw0 hw2 hm3 hw3 hw4
            go_wp2_with fail
            go_roundw
            case rel => exact ⟨k + 1, l ++ [{ s := 1 + (k : Int) % 3, c := 1 + (k : Int), f := [], p := (k : Int), A := none, cap := 0 }], (by have := hlt2.out; omega), by go_num, (by have := HLK.out; simp; omega), (by intro z hz; rcases List.mem_append.1 hz with h | h; exact H9.out z h; rw [List.mem_singleton] at h; subst h; simp), HS12⟩
            case measure => simp [intOf] <;> omega
          · have hlt' : ¬ (k : Int) < 10 + (x : Int) := by omega
            have HS6 := Lib.hid (S6.mono (show _ ≤ m + 2000 by omega))
            clear S6 hlt
            go_wp2_with fail
            go_ret
            exact ⟨l, _, rfl, by omega, H9.out, HS6.out⟩

theorem drawList_any (A : Option Addr) (cap : Nat) (bs : List UInt8) (w : World) (hr : BytesR w w.heap.size A bs) :
    Calls Tryz.prog 13 #[.slice A bs.length cap] w fun e w' => ∃ (l : List Ph) (A' : Option Addr) (c' : Nat), e = .returned (.slice A' l.length c') ∧ PhsR w' w'.heap.size A' l ∧ l.length ≤ 13 ∧ (∀ x ∈ l, x.f.length ≤ 9) ∧ Below w.heap.size w w' := by
  have E1 := cur_start (cap := cap) hr
  have b1 : Below w.heap.size w (w.alloc (.cells #[.slice A bs.length cap, .int .i64 0, .int .u64 0] 46)) := (Below.refl w.heap.size w).alloc (Nat.le_refl _) (.cells #[.slice A bs.length cap, .int .i64 0, .int .u64 0] 46)
  go_enter Tryz.func13, Tryz.ntmps13
  go_wp2_with fail
  generalize w.alloc (.cells #[.slice A bs.length cap, .int .i64 0, .int .u64 0] 46) = W1 at E1 b1 ⊢
  refine (phrases30_any w.heap.size A bs cap 0 W1 W1 (by omega) E1).mono ?_
  rintro e W2 ⟨l, v, rfl, hl, h9, S2⟩
  obtain ⟨A', c', rfl⟩ := S2.own.form
  have HR : Hid (PhsR W2 W2.heap.size A' l) := S2.own.reads
  have HB : Hid (Below w.heap.size w W2) := grown_belowR (grown_trans (grownAny b1 (some w.heap.size)) S2.gr) (Nat.le_refl _)
  clear S2 E1 b1
  go_wp2_with fail
  go_ret
  exact ⟨l, A', c', rfl, HR.out, hl, h9, HB.out⟩
end Go.Proofs.YtchkjiadnackaaaGreatDoor

/- Records and logs as bytes: plain words, no program in sight. -/
namespace Go.Proofs.YtchkjiadnackaaaGreatDoor

/-! ### The bytes ahead of a byte -/
def bef (b : UInt8) : List UInt8 → List UInt8
  | [] => []
  | x :: l => if x = b then [] else x :: bef b l
theorem bef_free {b : UInt8} : ∀ {l : List UInt8}, b ∉ l → bef b l = l
  | [], _ => rfl
  | x :: l, h => by
    simp only [List.mem_cons, not_or] at h
    unfold bef; rw [if_neg (Ne.symm h.1), bef_free h.2]
theorem bef_mid {b : UInt8} {r : List UInt8} : ∀ {t : List UInt8}, b ∉ t → bef b (t ++ b :: r) = t
  | [], _ => by simp [bef]
  | x :: l, h => by
    simp only [List.mem_cons, not_or] at h
    rw [List.cons_append]; unfold bef; rw [if_neg (Ne.symm h.1), bef_mid h.2]
theorem bef_not (b : UInt8) : ∀ l : List UInt8, b ∉ bef b l
  | [] => by simp [bef]
  | x :: l => by
    unfold bef; split
    · simp
    · rename_i h; simp only [List.mem_cons, not_or]; exact ⟨Ne.symm h, bef_not b l⟩
theorem bef_or (b : UInt8) : ∀ l : List UInt8, (b ∉ l ∧ bef b l = l) ∨ ∃ r, l = bef b l ++ b :: r
  | [] => .inl ⟨by simp, rfl⟩
  | x :: l => by
    unfold bef
    by_cases h : x = b
    · rw [if_pos h]; exact .inr ⟨l, by simp [h]⟩
    · rw [if_neg h]
      rcases bef_or b l with ⟨h1, h2⟩ | ⟨r, h1⟩
      · exact .inl ⟨by simp only [List.mem_cons, not_or]; exact ⟨Ne.symm h, h1⟩, by rw [h2]⟩
      · exact .inr ⟨r, by rw [List.cons_append, ← h1]⟩
theorem bef_len (b : UInt8) (l : List UInt8) : (bef b l).length ≤ l.length := by
  rcases bef_or b l with ⟨_, h⟩ | ⟨r, h⟩
  · rw [h]; exact Nat.le_refl _
  · have := congrArg List.length h; simp at this; omega
theorem bef_whole {b : UInt8} {l : List UInt8} : (bef b l).length = l.length ↔ b ∉ l := by
  constructor
  · intro h
    rcases bef_or b l with ⟨h1, _⟩ | ⟨r, h1⟩
    · exact h1
    · have := congrArg List.length h1; simp at this; omega
  · intro h; rw [bef_free h]
theorem take_bef {b : UInt8} (l : List UInt8) : l.take (bef b l).length = bef b l := by
  rcases bef_or b l with ⟨_, h⟩ | ⟨r, h⟩
  · rw [h]; simp
  · have e : (bef b l ++ b :: r).take (bef b l).length = bef b l := List.take_left' rfl
    rwa [← h] at e
theorem parts_bef {b : UInt8} {l : List UInt8} (h : b ∈ l) : l = bef b l ++ b :: l.drop ((bef b l).length + 1) := by
  rcases bef_or b l with ⟨h1, _⟩ | ⟨r, h1⟩
  · exact absurd h h1
  · have e : (bef b l ++ b :: r).drop ((bef b l).length + 1) = r := by
      rw [List.drop_append, List.drop_eq_nil_of_le (by omega)]; simp
    rw [← h1] at e
    rw [e]; exact h1

/-! ### Where a byte stands, in the library's words -/
theorem occ_one (s : List UInt8) (b : UInt8) (i : Nat) : Lib.occAt s [b] i = decide (s[i]? = some b) := by
  unfold Lib.occAt
  rcases Nat.lt_or_ge i s.length with h | h
  · rw [List.drop_eq_getElem_cons h, List.getElem?_eq_getElem h]
    by_cases e : s[i] = b
    · subst e; simp [List.isPrefixOf]
    · simp [List.isPrefixOf, e, Ne.symm e]
  · rw [List.drop_eq_nil_of_le h, List.getElem?_eq_none h]; rfl
theorem index_one_none {s : List UInt8} {b : UInt8} (h : b ∉ s) : Lib.index s [b] = -1 :=
  Lib.index_none fun j _ => by
    rw [occ_one, decide_eq_false_iff_not]; intro e; exact h (List.mem_of_getElem? e)
theorem index_one_mid {t r : List UInt8} {b : UInt8} (h : b ∉ t) : Lib.index (t ++ b :: r) [b] = t.length :=
  Lib.index_first (by simp) (by rw [occ_one]; simp) fun j hj => by
    rw [occ_one, decide_eq_false_iff_not, List.getElem?_append_left hj]; intro e; exact h (List.mem_of_getElem? e)
theorem index_one_or (s : List UInt8) (b : UInt8) : (b ∉ s ∧ Lib.index s [b] = -1) ∨ (b ∈ s ∧ Lib.index s [b] = (bef b s).length) := by
  rcases bef_or b s with ⟨h, _⟩ | ⟨r, h⟩
  · exact .inl ⟨h, index_one_none h⟩
  · refine .inr ⟨by rw [h]; simp, ?_⟩
    rw (occs := [1]) [h]; exact index_one_mid (bef_not b s)
theorem contains_one (s : List UInt8) (b : UInt8) : Lib.contains s [b] = s.contains b := by
  unfold Lib.contains
  rcases index_one_or s b with ⟨h, e⟩ | ⟨h, e⟩
  · rw [e]; simp [h]
  · rw [e]; simp [h]
theorem cut_one_none {s : List UInt8} {b : UInt8} (h : b ∉ s) : Lib.cut s [b] = (s, [], false) := by
  unfold Lib.cut; rw [index_one_none h]; simp
theorem cut_one_mid {t r : List UInt8} {b : UInt8} (h : b ∉ t) : Lib.cut (t ++ b :: r) [b] = (t, r, true) := by
  unfold Lib.cut; rw [index_one_mid h]; simp
theorem last_one_none {s : List UInt8} {b : UInt8} (h : b ∉ s) : Lib.lastIndex s [b] = -1 := by
  unfold Lib.lastIndex
  split
  · rcases Lib.lastOcc_spec s [b] (s.length - [b].length + 1) with ⟨e, _⟩ | ⟨i, _, _, ho, _⟩
    · exact e
    · rw [occ_one, decide_eq_true_eq] at ho; exact absurd (List.mem_of_getElem? ho) h
  · rfl
theorem last_one_mid {t r : List UInt8} {b : UInt8} (h : b ∉ r) : Lib.lastIndex (t ++ b :: r) [b] = t.length := by
  unfold Lib.lastIndex
  rw [if_pos (by simp; omega)]
  rcases Lib.lastOcc_spec (t ++ b :: r) [b] ((t ++ b :: r).length - [b].length + 1) with ⟨_, hn⟩ | ⟨i, hi, e, ho, hn⟩
  · have := hn t.length (by simp; omega)
    rw [occ_one] at this; simp at this
  · rw [e]
    rw [occ_one, decide_eq_true_eq] at ho
    rcases Nat.lt_trichotomy i t.length with hlt | heq | hgt
    · have := hn t.length hlt (by simp; omega)
      rw [occ_one] at this; simp at this
    · rw [heq]
    · exfalso
      rw [List.getElem?_append_right (by omega)] at ho
      obtain ⟨d, hd⟩ : ∃ d, i - t.length = d + 1 := ⟨i - t.length - 1, by omega⟩
      rw [hd, List.getElem?_cons_succ] at ho
      exact h (List.mem_of_getElem? ho)
theorem last_one_ge (s : List UInt8) (b : UInt8) : Lib.lastIndex s [b] = -1 ∨ ∃ i : Nat, Lib.lastIndex s [b] = i ∧ i < s.length ∧ s[i]? = some b := by
  unfold Lib.lastIndex
  split
  · rcases Lib.lastOcc_spec s [b] (s.length - [b].length + 1) with ⟨e, _⟩ | ⟨i, hi, e, ho, _⟩
    · exact .inl e
    · rw [occ_one, decide_eq_true_eq] at ho
      exact .inr ⟨i, e, (List.getElem?_eq_some_iff.1 ho).1, ho⟩
  · exact .inl rfl

/-! ### Records -/
theorem dec_bytes : ∀ (n : Nat) (c : UInt8), c ∈ Lib.decDigits n → 48 ≤ c.toNat ∧ c.toNat ≤ 57 := by
  intro n
  induction n using Nat.strongRecOn with
  | ind n ih =>
    intro c hc
    rw [Lib.decDigits] at hc
    have one : ∀ k, k < 10 → c = UInt8.ofNat (48 + k) → 48 ≤ c.toNat ∧ c.toNat ≤ 57 := by
      intro k hk e
      have : c.toNat = 48 + k := by rw [e, UInt8.toNat_ofNat']; omega
      omega
    split at hc
    · rename_i h; exact one n h (by simpa using hc)
    · rename_i h
      rcases List.mem_append.1 hc with h1 | h1
      · exact ih (n / 10) (by omega) c h1
      · exact one (n % 10) (by omega) (by simpa using h1)
theorem itoa_nat (n : Nat) : Lib.itoa (n : Int) = Lib.decDigits n := by unfold Lib.itoa; rw [if_neg (by omega), Int.toNat_natCast]
theorem itoa_free {n : Nat} {b : UInt8} (h : b.toNat < 48 ∨ 57 < b.toNat) : b ∉ Lib.itoa (n : Int) := by
  rw [itoa_nat]; intro hb; have := dec_bytes n b hb; omega
theorem itoa_le21 {n : Nat} (h : n ≤ 9223372036854775807) : (Lib.itoa (n : Int)).length ≤ 21 := Lib.itoa_length_le _ (by omega) (by omega)

def plainB (c : UInt8) : Bool := decide (32 ≤ c.toNat) && decide (c.toNat ≤ 126) && c != 35
def plainL (l : List UInt8) : Bool := l.all plainB
theorem plain_free {l : List UInt8} (h : plainL l = true) : (35 : UInt8) ∉ l := fun hm => by
  have := List.all_eq_true.1 h _ hm; simp [plainB] at this
theorem plain_nl {l : List UInt8} (h : plainL l = true) : (10 : UInt8) ∉ l := fun hm => by
  have := List.all_eq_true.1 h _ hm; simp [plainB] at this
def recOk (c r : List UInt8) : Bool := decide (1 ≤ c.length) && decide (c.length ≤ 160) && plainL c && !c.contains 64 && plainL r && decide (r.length ≤ 200)
theorem recOk_iff {c r : List UInt8} : recOk c r = true ↔ 1 ≤ c.length ∧ c.length ≤ 160 ∧ plainL c = true ∧ (64 : UInt8) ∉ c ∧ plainL r = true ∧ r.length ≤ 200 := by
  unfold recOk; simp [Bool.and_eq_true, and_assoc]
def sumFrom : Nat → List UInt8 → Nat
  | h, [] => h
  | h, c :: l => sumFrom ((41 * h + c.toNat + 1) % 999979) l
theorem sumFrom_lt : ∀ (l : List UInt8) (h : Nat), h < 999979 → sumFrom h l < 999979
  | [], _, h => h
  | _ :: l, _, _ => sumFrom_lt l _ (Nat.mod_lt _ (by omega))
def sumL (l : List UInt8) : Nat := sumFrom 7 l
theorem sumL_lt (l : List UInt8) : sumL l < 999979 := sumFrom_lt l 7 (by omega)
def sealL (t : List UInt8) : List UInt8 := t ++ 35 :: Lib.itoa (sumL t)
theorem seal_len (t : List UInt8) : (sealL t).length ≤ t.length + 22 := by
  have := itoa_le21 (n := sumL t) (by have := sumL_lt t; omega)
  unfold sealL; simp; omega
theorem seal_bef {t : List UInt8} (h : (35 : UInt8) ∉ t) : bef 35 (sealL t) = t := bef_mid h
theorem seal_last (t : List UInt8) : Lib.lastIndex (sealL t) [35] = t.length := last_one_mid (itoa_free (by decide))
def txtL (k : Nat) (c r : List UInt8) : List UInt8 := Lib.itoa (k : Int) ++ [32] ++ c ++ [64] ++ r
def lineL (k : Nat) (c r : List UInt8) : List UInt8 := sealL (txtL k c r) ++ [10]
theorem txt_free {k : Nat} {c r : List UInt8} (h : recOk c r = true) : (35 : UInt8) ∉ txtL k c r := by
  obtain ⟨_, _, h1, _, h2, _⟩ := recOk_iff.1 h
  have a := itoa_free (n := k) (b := 35) (by decide)
  have b := plain_free h1
  have d := plain_free h2
  unfold txtL; simp [a, b, d]
theorem txt_len {k : Nat} {c r : List UInt8} (h : recOk c r = true) (hk : k ≤ 9223372036854775807) : (txtL k c r).length ≤ 383 := by
  obtain ⟨_, h1, _, _, _, h2⟩ := recOk_iff.1 h
  have := itoa_le21 hk
  unfold txtL; simp; omega
theorem line_len {k : Nat} {c r : List UInt8} (h : recOk c r = true) (hk : k ≤ 9223372036854775807) : (lineL k c r).length ≤ 406 := by
  have := txt_len h hk
  have := seal_len (txtL k c r)
  unfold lineL; simp; omega
theorem seal_nl {k : Nat} {c r : List UInt8} (h : recOk c r = true) : (10 : UInt8) ∉ sealL (txtL k c r) := by
  obtain ⟨_, _, h1, _, h2, _⟩ := recOk_iff.1 h
  have a := itoa_free (n := k) (b := 10) (by decide)
  have a' := itoa_free (n := sumL (txtL k c r)) (b := 10) (by decide)
  have b := plain_nl h1
  have d := plain_nl h2
  unfold sealL
  simp only [List.mem_append, List.mem_cons, not_or]
  refine ⟨?_, by decide, a'⟩
  unfold txtL; simp [a, b, d]

/-- s is the encoding of the record c, r with number k. -/
def Enc (k : Nat) (c r s : List UInt8) : Prop := recOk c r = true ∧ sealL (txtL k c r) = s
theorem Enc.inj {k : Nat} {c r c' r' s : List UInt8} (h : Enc k c r s) (h' : Enc k c' r' s) : c = c' ∧ r = r' := by
  obtain ⟨h1, h2⟩ := h
  obtain ⟨h1', h2'⟩ := h'
  have e : txtL k c r = txtL k c' r' := by rw [← seal_bef (txt_free h1), ← seal_bef (txt_free h1'), h2, h2']
  unfold txtL at e
  simp only [List.append_assoc] at e
  have e2 := List.append_cancel_left (List.append_cancel_left e)
  obtain ⟨_, _, _, n, _⟩ := recOk_iff.1 h1
  obtain ⟨_, _, _, n', _⟩ := recOk_iff.1 h1'
  have a := bef_mid (r := r) n
  have a' := bef_mid (r := r') n'
  have e3 : c ++ 64 :: r = c' ++ 64 :: r' := e2
  rw [e3, a'] at a
  subst a
  exact ⟨rfl, by simpa using List.append_cancel_left e3⟩
open Classical in
/-- What a line decodes to, as the record with number k. -/
noncomputable def decF (k : Nat) (s : List UInt8) : Option (List UInt8 × List UInt8) := if h : ∃ p : List UInt8 × List UInt8, Enc k p.1 p.2 s then some h.choose else none
theorem decF_some {k : Nat} {c r s : List UInt8} (h : Enc k c r s) : decF k s = some (c, r) := by
  have hex : ∃ p : List UInt8 × List UInt8, Enc k p.1 p.2 s := ⟨(c, r), h⟩
  unfold decF
  rw [dif_pos hex]
  obtain ⟨e1, e2⟩ := hex.choose_spec.inj h
  exact congrArg some (Prod.ext e1 e2)
theorem decF_none {k : Nat} {s : List UInt8} (h : ∀ c r, ¬ Enc k c r s) : decF k s = none := by
  unfold decF
  rw [dif_neg (fun ⟨p, hp⟩ => h _ _ hp)]
theorem decF_enc {k : Nat} {c r s : List UInt8} (h : decF k s = some (c, r)) : Enc k c r s := by
  by_cases hex : ∃ p : List UInt8 × List UInt8, Enc k p.1 p.2 s
  · unfold decF at h
    rw [dif_pos hex] at h
    have := hex.choose_spec
    rw [Option.some.inj h] at this
    exact this
  · unfold decF at h
    rw [dif_neg hex] at h; cases h

/-! ### The program's way of decoding: the checksum, a prefix, a cut -/
/-- A text with its checksum verified. -/
def Ver (t s : List UInt8) : Prop := (35 : UInt8) ∉ t ∧ sealL t = s ∧ t.length ≤ 4000 ∧ s.length ≤ 4000
theorem Ver.inj {t t' s : List UInt8} (h : Ver t s) (h' : Ver t' s) : t = t' := by
  rw [← seal_bef h.1, ← seal_bef h'.1, h.2.1, h'.2.1]
theorem Enc.ver {k : Nat} {c r s : List UInt8} (h : Enc k c r s) (hk : k ≤ 9223372036854775807) : Ver (txtL k c r) s := by
  refine ⟨txt_free h.1, h.2, by have := txt_len h.1 hk; omega, ?_⟩
  rw [← h.2]; have := txt_len h.1 hk; have := seal_len (txtL k c r); omega
theorem dec_no_ver {k : Nat} {s : List UInt8} (hk : k ≤ 9223372036854775807) (h : ∀ t, ¬ Ver t s) : decF k s = none := decF_none fun _ _ he => h _ (he.ver hk)
theorem dec_no_num {k : Nat} {s t : List UInt8} (hk : k ≤ 9223372036854775807) (hv : Ver t s) (h : ¬ (Lib.itoa (k : Int) ++ [32]) <+: t) : decF k s = none := decF_none fun c r he => h (by
  rw [hv.inj (he.ver hk)]
  exact ⟨c ++ [64] ++ r, by unfold txtL; simp⟩)
theorem dec_no_at {k : Nat} {s t u : List UInt8} (hk : k ≤ 9223372036854775807) (hv : Ver t s) (ht : t = Lib.itoa (k : Int) ++ [32] ++ u) (h : (64 : UInt8) ∉ u) : decF k s = none := decF_none fun c r he => h (by
  have e := hv.inj (he.ver hk)
  rw [ht] at e
  unfold txtL at e
  simp only [List.append_assoc] at e
  have := List.append_cancel_left (List.append_cancel_left e)
  rw [this]; simp)
theorem dec_iff_rec {k : Nat} {s t c r : List UInt8} (hk : k ≤ 9223372036854775807) (hv : Ver t s) (ht : t = Lib.itoa (k : Int) ++ [32] ++ (c ++ 64 :: r)) (hc : (64 : UInt8) ∉ c) :
    decF k s = if recOk c r = true then some (c, r) else none := by
  have e0 : txtL k c r = t := by rw [ht]; unfold txtL; simp
  split
  · rename_i h; exact decF_some ⟨h, by rw [e0]; exact hv.2.1⟩
  · rename_i h
    refine decF_none fun c' r' he => h ?_
    have e := hv.inj (he.ver hk)
    rw [← e0] at e
    unfold txtL at e
    simp only [List.append_assoc] at e
    have e2 := List.append_cancel_left (List.append_cancel_left e)
    have e3 : c ++ 64 :: r = c' ++ 64 :: r' := e2
    obtain ⟨_, _, _, n', _⟩ := recOk_iff.1 he.1
    have a := bef_mid (r := r) hc
    rw [e3, bef_mid n'] at a
    subst a
    have : r = r' := by simpa using List.append_cancel_left e3
    subst this
    exact he.1

/-! ### The reference's way: the text ahead of the sign -/
theorem dec_spec_num {k : Nat} {s : List UInt8} (h : ¬ (Lib.itoa (k : Int) ++ [32]) <+: bef 35 s) : decF k s = none := decF_none fun c r he => h (by
  rw [← he.2, seal_bef (txt_free he.1)]
  exact ⟨c ++ [64] ++ r, by unfold txtL; simp⟩)
theorem dec_spec_at {k : Nat} {s u : List UInt8} (ht : bef 35 s = Lib.itoa (k : Int) ++ [32] ++ u) (h : (64 : UInt8) ∉ u) : decF k s = none := decF_none fun c r he => h (by
  rw [← he.2, seal_bef (txt_free he.1)] at ht
  unfold txtL at ht
  simp only [List.append_assoc] at ht
  have := List.append_cancel_left (List.append_cancel_left ht)
  rw [← this]; simp)
theorem dec_spec_rec {k : Nat} {s c r : List UInt8} (ht : bef 35 s = Lib.itoa (k : Int) ++ [32] ++ (c ++ 64 :: r)) (hc : (64 : UInt8) ∉ c) :
    decF k s = if recOk c r = true ∧ lineL k c r = s ++ [10] then some (c, r) else none := by
  split
  · rename_i h; exact decF_some ⟨h.1, List.append_cancel_right h.2⟩
  · rename_i h
    refine decF_none fun c' r' he => h ?_
    have e := ht
    rw [← he.2, seal_bef (txt_free he.1)] at e
    unfold txtL at e
    simp only [List.append_assoc] at e
    have e2 := List.append_cancel_left (List.append_cancel_left e)
    have e3 : c' ++ 64 :: r' = c ++ 64 :: r := e2
    obtain ⟨_, _, _, n', _⟩ := recOk_iff.1 he.1
    have a := bef_mid (r := r) hc
    rw [← e3, bef_mid n'] at a
    subst a
    have : r' = r := by simpa using List.append_cancel_left e3
    subst this
    exact ⟨he.1, by unfold lineL; rw [he.2]⟩

/-! ### A log: the records at the start of its bytes -/
/-- At most n records, from number k on, each with the length of its line. -/
noncomputable def openF : Nat → Nat → List UInt8 → List ((List UInt8 × List UInt8) × Nat)
  | 0, _, _ => []
  | n + 1, k, s => if (10 : UInt8) ∈ s then
      match decF k (bef 10 s) with
      | none => []
      | some e => (e, (bef 10 s).length + 1) :: openF n (k + 1) (s.drop ((bef 10 s).length + 1))
    else []
def lens (l : List ((List UInt8 × List UInt8) × Nat)) : Nat := (l.map (·.2)).sum
theorem lens_cons (e : (List UInt8 × List UInt8) × Nat) (l : List ((List UInt8 × List UInt8) × Nat)) : lens (e :: l) = e.2 + lens l := by simp [lens]
theorem openF_no {n k : Nat} {s : List UInt8} (h : (10 : UInt8) ∉ s) : openF n k s = [] := by cases n <;> simp [openF, h]
theorem openF_bad {n k : Nat} {s : List UInt8} (h : decF k (bef 10 s) = none) : openF n k s = [] := by cases n <;> simp [openF, h]
theorem openF_yes {n k : Nat} {s : List UInt8} {e : List UInt8 × List UInt8} (h1 : (10 : UInt8) ∈ s) (h2 : decF k (bef 10 s) = some e) :
    openF (n + 1) k s = (e, (bef 10 s).length + 1) :: openF n (k + 1) (s.drop ((bef 10 s).length + 1)) := by simp [openF, h1, h2]
theorem openF_room : ∀ (n k : Nat) (s : List UInt8), lens (openF n k s) ≤ s.length
  | 0, _, _ => by simp [openF, lens]
  | n + 1, k, s => by
    by_cases h1 : (10 : UInt8) ∈ s
    · cases h2 : decF k (bef 10 s) with
      | none => rw [openF_bad h2]; simp [lens]
      | some e =>
        rw [openF_yes h1 h2, lens_cons]
        have := openF_room n (k + 1) (s.drop ((bef 10 s).length + 1))
        have h3 := congrArg List.length (parts_bef h1)
        simp at this h3
        simp only
        omega
    · rw [openF_no h1]; simp [lens]
theorem openF_length : ∀ (n k : Nat) (s : List UInt8), (openF n k s).length ≤ n
  | 0, _, _ => by simp [openF]
  | n + 1, k, s => by
    by_cases h1 : (10 : UInt8) ∈ s
    · cases h2 : decF k (bef 10 s) with
      | none => rw [openF_bad h2]; simp
      | some e => rw [openF_yes h1 h2, List.length_cons]; have := openF_length n (k + 1) (s.drop ((bef 10 s).length + 1)); omega
    · rw [openF_no h1]; simp
theorem openF_small : ∀ (n k : Nat) (s : List UInt8), n + k ≤ 1000 → lens (openF n k s) ≤ 406 * n
  | 0, _, _, _ => by simp [openF, lens]
  | n + 1, k, s, h => by
    by_cases h1 : (10 : UInt8) ∈ s
    · cases h2 : decF k (bef 10 s) with
      | none => rw [openF_bad h2]; simp [lens]
      | some e =>
        rw [openF_yes h1 h2, lens_cons]
        have := openF_small n (k + 1) (s.drop ((bef 10 s).length + 1)) (by omega)
        obtain ⟨c, r⟩ := e
        have he := decF_enc h2
        have hl := line_len (k := k) he.1 (by omega)
        unfold lineL at hl; rw [he.2] at hl; simp at hl
        simp only
        omega
    · rw [openF_no h1]; simp [lens]

/-- The places where records end, from a on, with a in front. -/
def endsF : Nat → List ((List UInt8 × List UInt8) × Nat) → List Nat
  | a, [] => [a]
  | a, e :: l => a :: endsF (a + e.2) l
theorem endsF_ne (a : Nat) (l : List ((List UInt8 × List UInt8) × Nat)) : endsF a l ≠ [] := by cases l <;> simp [endsF]
theorem endsF_length : ∀ (a : Nat) (l : List ((List UInt8 × List UInt8) × Nat)), (endsF a l).length = l.length + 1
  | _, [] => rfl
  | a, _ :: l => by simp [endsF, endsF_length (a + _) l]
theorem endsF_snoc : ∀ (a : Nat) (l : List ((List UInt8 × List UInt8) × Nat)) (e : (List UInt8 × List UInt8) × Nat), endsF a (l ++ [e]) = endsF a l ++ [a + lens l + e.2]
  | a, [], e => by simp [endsF, lens]
  | a, x :: l, e => by simp [endsF, endsF_snoc (a + x.2) l e, lens_cons, Nat.add_assoc]
theorem endsF_last : ∀ (a : Nat) (l : List ((List UInt8 × List UInt8) × Nat)), (endsF a l)[l.length]? = some (a + lens l)
  | _, [] => by simp [endsF, lens]
  | a, x :: l => by simp [endsF, endsF_last (a + x.2) l, lens_cons, Nat.add_assoc]
theorem endsF_ge : ∀ (a : Nat) (l : List ((List UInt8 × List UInt8) × Nat)) (x : Nat), x ∈ endsF a l → a ≤ x
  | a, [], x, h => by simp [endsF] at h; omega
  | a, e :: l, x, h => by
    simp only [endsF, List.mem_cons] at h
    rcases h with h | h
    · omega
    · have := endsF_ge (a + e.2) l x h; omega

/-- The durable bytes end where a record ends: it is as much as that they are read whole by themselves. -/
theorem kept_iff : ∀ (n k a : Nat) (D P : List UInt8), a + D.length ∈ endsF a (openF n k (D ++ P)) ↔ lens (openF n k D) = D.length
  | 0, k, a, D, P => by simp only [openF, endsF, lens, List.map_nil, List.sum_nil, List.mem_singleton]; omega
  | n + 1, k, a, D, P => by
    by_cases hD : D.length = 0
    · have : D = [] := List.eq_nil_of_length_eq_zero hD
      subst this
      rw [openF_no (s := []) (by simp)]
      constructor
      · intro _; rfl
      · intro _
        have : endsF a (openF (n + 1) k ([] ++ P)) ≠ [] := endsF_ne _ _
        cases h : openF (n + 1) k ([] ++ P) <;> simp [endsF]
    · by_cases h1 : (10 : UInt8) ∈ D
      · have e1 := parts_bef h1
        have h1' : (10 : UInt8) ∈ D ++ P := by simp [h1]
        have hb : bef 10 (D ++ P) = bef 10 D := by
          rw (occs := [1]) [e1]
          rw [List.append_assoc, List.cons_append]; exact bef_mid (bef_not 10 D)
        have hlen : (bef 10 D).length + 1 ≤ D.length := by have := congrArg List.length e1; simp at this; omega
        cases h2 : decF k (bef 10 D) with
        | none =>
          rw [openF_bad (by rw [hb]; exact h2), openF_bad h2]
          simp only [endsF, lens, List.map_nil, List.sum_nil, List.mem_singleton]; omega
        | some e =>
          rw [openF_yes h1' (by rw [hb]; exact h2), openF_yes h1 h2, hb]
          have e2 : (D ++ P).drop ((bef 10 D).length + 1) = D.drop ((bef 10 D).length + 1) ++ P := List.drop_append_of_le_length hlen
          rw [e2, lens_cons]
          simp only [endsF, List.mem_cons]
          have ih := kept_iff n (k + 1) (a + ((bef 10 D).length + 1)) (D.drop ((bef 10 D).length + 1)) P
          rw [List.length_drop] at ih
          have e3 : a + ((bef 10 D).length + 1) + (D.length - ((bef 10 D).length + 1)) = a + D.length := by omega
          rw [e3] at ih
          constructor
          · rintro (h | h)
            · omega
            · have := ih.1 h; omega
          · intro h
            exact .inr (ih.2 (by omega))
      · rw [openF_no h1]
        simp only [lens, List.map_nil, List.sum_nil]
        constructor
        · intro h
          exfalso
          by_cases h3 : (10 : UInt8) ∈ D ++ P
          · cases h2 : decF k (bef 10 (D ++ P)) with
            | none => rw [openF_bad h2] at h; simp only [endsF, List.mem_singleton] at h; omega
            | some e =>
              rw [openF_yes h3 h2] at h
              simp only [endsF, List.mem_cons] at h
              rcases h with h | h
              · omega
              · have := endsF_ge _ _ _ h
                have hge : D.length ≤ (bef 10 (D ++ P)).length := by
                  rcases Nat.lt_or_ge (bef 10 (D ++ P)).length D.length with hlt | hge
                  · exfalso
                    have e4 := parts_bef h3
                    have h5 : (D ++ P)[(bef 10 (D ++ P)).length]? = some 10 := by rw (occs := [1]) [e4]; simp
                    rw [List.getElem?_append_left hlt] at h5
                    exact h1 (List.mem_of_getElem? h5)
                  · exact hge
                omega
          · rw [openF_no h3] at h; simp only [endsF, List.mem_singleton] at h; omega
        · intro h; omega

/-- A log is valid. -/
noncomputable def logOk (D P : List UInt8) (n : Int) : Bool :=
  decide (lens (openF 60 0 (D ++ P)) = D.length + P.length) && decide (lens (openF 60 0 D) = D.length) && decide (((openF 60 0 (D ++ P)).length : Int) = n)
theorem logOk_small {D P : List UInt8} (h : lens (openF 60 0 (D ++ P)) = D.length + P.length) : D.length + P.length ≤ 30000 := by
  have := openF_small 60 0 (D ++ P) (by omega); omega
theorem logOk_iff {D P : List UInt8} {n : Int} : logOk D P n = true ↔ lens (openF 60 0 (D ++ P)) = D.length + P.length ∧ lens (openF 60 0 D) = D.length ∧ ((openF 60 0 (D ++ P)).length : Int) = n := by
  unfold logOk; simp [Bool.and_eq_true, and_assoc]
/-- The same in the program's words. -/
theorem logOk_impl {D P : List UInt8} {n : Int} : logOk D P n = true ↔ lens (openF 60 0 (D ++ P)) = D.length + P.length ∧ D.length ∈ endsF 0 (openF 60 0 (D ++ P)) ∧ n = ((openF 60 0 (D ++ P)).length : Int) := by
  have := kept_iff 60 0 0 D P
  rw [Nat.zero_add] at this
  rw [logOk_iff, this]
  constructor <;> (rintro ⟨h1, h2, h3⟩; exact ⟨h1, h2, h3.symm⟩)
end Go.Proofs.YtchkjiadnackaaaGreatDoor

/- The bytes of a text (no program in sight). -/
namespace Go.Proofs.YtchkjiadnackaaaGreatDoor
open Go.RowKit

def bl (s : ByteArray) : List UInt8 := s.data.toList
theorem bl_app (a b : ByteArray) : bl (a ++ b) = bl a ++ bl b := by unfold bl; rw [ByteArray.data_append, Array.toList_append]
theorem bl_mk (l : List UInt8) : bl ⟨l.toArray⟩ = l := by simp [bl]
theorem bl_lit (l : Array UInt8) : bl ⟨l⟩ = l.toList := rfl
theorem bl_size (s : ByteArray) : (bl s).length = s.size := rfl
theorem bl_ext {s : ByteArray} {l : List UInt8} (h : bl s = l) : s = ⟨l.toArray⟩ := by
  rw [← h]; simp [bl]
theorem bl_inj {s t : ByteArray} (h : bl s = bl t) : s = t := (bl_ext h).trans (bl_ext rfl).symm
set_option maxRecDepth 10000 in
theorem size_app (a b : ByteArray) : (a ++ b).size = a.size + b.size := by rw [← bl_size (a ++ b), bl_app, List.length_append, bl_size, bl_size]
theorem bl_drop {s : ByteArray} {k : Nat} (h : k < s.size) : (bl s).drop k = s[k] :: (bl s).drop (k + 1) := List.drop_eq_getElem_cons (l := bl s) h
theorem bl_take {s : ByteArray} {k : Nat} (h : k < s.size) : (bl s).take (k + 1) = (bl s).take k ++ [s[k]] := List.take_succ_eq_append_getElem (l := bl s) h
theorem bl_extract (s : ByteArray) (a b : Nat) : bl (s.extract a b) = ((bl s).take b).drop a := by
  unfold bl
  rw [Lib.extract_data, List.drop_take]
theorem u8_eq {a b : UInt8} : ((a.toNat : Int) == (b.toNat : Int)) = decide (a = b) := by
  rw [Bool.eq_iff_iff]; simp [← UInt8.toNat_inj]; omega
end Go.Proofs.YtchkjiadnackaaaGreatDoor

/- Texts that are empty or not. -/
namespace Go.Proofs.YtchkjiadnackaaaGreatDoor

theorem toL (s : ByteArray) : s.toList = bl s := ByteArray.toList_eq s
theorem empty_of0 {s : ByteArray} (h : ¬ 1 ≤ s.size) : s.toList = [] := by rw [toL]; exact List.eq_nil_of_length_eq_zero (by rw [bl_size]; omega)
theorem empty_not {s : ByteArray} (h : 1 ≤ s.size) : s.toList ≠ [] := fun e => by rw [toL] at e; have := congrArg List.length e; rw [bl_size, List.length_nil] at this; omega
end Go.Proofs.YtchkjiadnackaaaGreatDoor

/- Texts drawn: one of a row of texts; a text spoilt. -/
namespace Go.Proofs.YtchkjiadnackaaaGreatDoor
open Go.RowKit

theorem Lies.newB (w : World) (o : Obj) (t : TypeId) (cs : Array Value) : Lies ((w.alloc o).alloc (.cells cs t)) (w.heap.size + 1) t cs.toList := by
  have h := Lies.new (w.alloc o) t cs
  rwa [show (w.alloc o).heap.size = w.heap.size + 1 from Array.size_push _] at h
abbrev encSs (l : List ByteArray) : List Value := l.map Value.string
theorem ex_size (s : ByteArray) (a b : Nat) : (s.extract a b).size = min b s.size - a := ByteArray.size_extract ..
set_option maxHeartbeats 2000000 in
theorem spoilt_any (g : Nat) (A : Option Addr) (cap m : Nat) (bs : List UInt8) (t s : ByteArray) (w W : World) (hs : 1 ≤ s.size) (hs' : s.size ≤ 100) (ht : t.size ≤ 100000) (hm : m ≤ 800000000) (E : Env w W g A bs cap m) :
    Calls Tryz.prog 31 #[.pointer (some ⟨g, 0, none⟩), .string t, .string s] W fun e w' => ∃ x : ByteArray, e = .returned (.string x) ∧ x.size ≤ t.size + 1 ∧ Env w w' g A bs cap (m + 6) ∧ W.grownBy w' (some g) := by
  by_cases h0 : 1 ≤ t.size
  · have hne : t.toList.isEmpty = false := List.isEmpty_eq_false_iff.2 (empty_not h0)
    go_enter Tryz.func31, Tryz.ntmps31
    go_wp2_with fail
    refine (pick_env E t.size (by omega) (by omega)).mono ?_
    rintro e w1 ⟨i, rfl, hi, E1, gr1⟩
    have hi' : i + 1 ≤ t.size := by omega
    clear hi hne
    go_wp2_with fail
    refine (pick_env E1 s.size (by omega) (by omega)).mono ?_
    rintro e w2 ⟨j, rfl, hj, E2, gr2⟩
    have gr12 := grown_trans gr1 gr2
    have hj' : j + 1 ≤ s.size := by omega
    have z1 := ex_size s j s.size
    clear hj gr1 gr2 E1
    go_wp2_with fail
    have hx1 : ((s.extract j s.size).extract 0 1).size ≤ 1 := by rw [ex_size]; omega
    generalize (s.extract j s.size).extract 0 1 = x at hx1 ⊢
    refine (pick_env E2 3 (by omega) (by omega)).mono ?_
    rintro e w3 ⟨k, rfl, hk, E3, gr3⟩
    have gr := grown_trans gr12 gr3
    have z2 := ex_size t 0 i
    have z3 := ex_size t i t.size
    have z4 := ex_size t (i + 1) t.size
    have y1 := size_app (t.extract 0 i) x
    have y2 := size_app (t.extract 0 i ++ x) (t.extract i t.size)
    have y3 := size_app (t.extract 0 i ++ x) (t.extract (i + 1) t.size)
    have y4 := size_app (t.extract 0 i) (t.extract (i + 1) t.size)
    have hk3 : k = 0 ∨ k = 1 ∨ k = 2 := by omega
    have HE := Lib.hid E3
    have HG := Lib.hid gr
    clear gr12 gr3 E2 E3 gr E hk z1
    rcases hk3 with rfl | rfl | rfl
    · go_wp2_with fail
      refine wp_region_since0 (by kernel_rfl) (by kernel_rfl) ?_
      repeat (any_goals (first | go_big_quiet_step ((fail)) | (refine wpQuiet_step (fun K hK => ?_); go_simp; split <;> (refine hK _ ?_; clear hK K))))
      all_goals (refine wpQuiet_nil ?_; rintro _ ⟨q1, rfl⟩)
      go_wp2_with fail
      go_ret
      exact ⟨_, rfl, by omega, HE.out.below q1.below, grown_trans HG.out (grownAny q1.below _)⟩
    · go_wp2_with fail
      refine wp_region_since0 (by kernel_rfl) (by kernel_rfl) ?_
      repeat (any_goals (first | go_big_quiet_step ((fail)) | (refine wpQuiet_step (fun K hK => ?_); go_simp; split <;> (refine hK _ ?_; clear hK K))))
      all_goals (refine wpQuiet_nil ?_; rintro _ ⟨q1, rfl⟩)
      go_wp2_with fail
      go_ret
      exact ⟨_, rfl, by omega, HE.out.below q1.below, grown_trans HG.out (grownAny q1.below _)⟩
    · go_wp2_with fail
      refine wp_region_since0 (by kernel_rfl) (by kernel_rfl) ?_
      repeat (any_goals (first | go_big_quiet_step ((fail)) | (refine wpQuiet_step (fun K hK => ?_); go_simp; split <;> (refine hK _ ?_; clear hK K))))
      all_goals (refine wpQuiet_nil ?_; rintro _ ⟨q1, rfl⟩)
      go_wp2_with fail
      go_ret
      exact ⟨_, rfl, by omega, HE.out.below q1.below, grown_trans HG.out (grownAny q1.below _)⟩
  · have he : t.toList.isEmpty = true := List.isEmpty_iff.2 (empty_of0 h0)
    have z1 := ex_size s 0 1
    go_enter Tryz.func31, Tryz.ntmps31
    go_wp2_with fail
    go_ret
    exact ⟨_, rfl, by rw [z1]; omega, E.mono (by omega), World.grownBy.refl _ _⟩
end Go.Proofs.YtchkjiadnackaaaGreatDoor

/- The text of a number, in the reference (l1Num). -/
namespace Go.Proofs.YtchkjiadnackaaaGreatDoor
open Go.RowKit

theorem dec_small {n : Nat} (h : n < 10) : Lib.decDigits n = [UInt8.ofNat (48 + n)] := by rw [Lib.decDigits, dif_pos h]
theorem dec_big {n : Nat} (h : ¬ n < 10) : Lib.decDigits n = Lib.decDigits (n / 10) ++ [UInt8.ofNat (48 + n % 10)] := by rw [Lib.decDigits, dif_neg h]

theorem digit_at : ∀ {n : Nat}, n < 10 → (⟨#[48, 49, 50, 51, 52, 53, 54, 55, 56, 57]⟩ : ByteArray).extract n (n + 1) = ⟨[UInt8.ofNat (48 + n)].toArray⟩
  | 0, _ => by decide | 1, _ => by decide | 2, _ => by decide | 3, _ => by decide | 4, _ => by decide
  | 5, _ => by decide | 6, _ => by decide | 7, _ => by decide | 8, _ => by decide | 9, _ => by decide

theorem dec_len {n : Nat} (h : n ≤ 1000000000) : (⟨(Lib.decDigits n).toArray⟩ : ByteArray).size ≤ 100 := by
  show (Lib.decDigits n).toArray.size ≤ 100
  rw [List.size_toArray, Lib.decDigits_length]
  have := Lib.nDigits_le20 n (by omega)
  omega

set_option maxHeartbeats 1000000 in
theorem l1Num_nat (k : Nat) : ∀ (n : Nat) (w : World), n < 10 ^ k → n ≤ 1000000000 →
    Calls Tryz.prog 41 #[.int .i64 (n : Int)] w fun e w' => e = .returned (.string ⟨(Lib.decDigits n).toArray⟩) ∧ Below w.heap.size w w' := by
  induction k with
  | zero =>
    intro n w hn _
    have h0 : n = 0 := by simpa using hn
    subst h0
    have HD := Lib.hid (dec_small (n := 0) (by omega))
    have HE := Lib.hid (digit_at (n := 0) (by omega))
    go_enter Tryz.func41, Tryz.ntmps41
    go_wp2
    go_ret
    exact ⟨by rw [HD.out, ← HE.out]; rfl, Below.refl _ _⟩
  | succ k ih =>
    intro n w hn hb
    by_cases h10 : n < 10
    · have HD := Lib.hid (dec_small h10)
      have HE := Lib.hid (digit_at h10)
      go_enter Tryz.func41, Tryz.ntmps41
      go_wp2
      go_ret
      exact ⟨by rw [HD.out, ← HE.out]; rfl, Below.refl _ _⟩
    · have HD := Lib.hid (dec_big h10)
      have hr : n % 10 < 10 := Nat.mod_lt _ (by omega)
      have HE := Lib.hid (digit_at hr)
      have hk : n / 10 < 10 ^ k := Nat.div_lt_of_lt_mul (by rw [Nat.mul_comm, ← Nat.pow_succ]; exact hn)
      obtain ⟨sv, hsv⟩ : ∃ s : ByteArray, s = ⟨(Lib.decDigits (n / 10)).toArray⟩ := ⟨_, rfl⟩
      obtain ⟨dv, hdv⟩ : ∃ s : ByteArray, s = (⟨#[48, 49, 50, 51, 52, 53, 54, 55, 56, 57]⟩ : ByteArray).extract (n % 10) (n % 10 + 1) := ⟨_, rfl⟩
      have hss : sv.size ≤ 100 := by rw [hsv]; exact dec_len (by omega)
      have hds : dv.size ≤ 10 := by rw [hdv, HE.out]; exact (by decide : (1 : Nat) ≤ 10)
      have ih' : ∀ W : World, Calls Tryz.prog 41 #[.int .i64 ((n : Int) / 10)] W fun e w' => e = .returned (.string sv) ∧ Below W.heap.size W w' := fun W => by
        have := ih (n / 10) W hk (by omega)
        rw [Int.natCast_ediv] at this; rw [hsv]; exact this
      have IH := Lib.hid ih'; clear ih' ih
      have hex := hdv.symm
      have HSV := Lib.hid hsv; clear hsv
      have HDV := Lib.hid hdv; clear hdv
      have e1 : (n : Int).tdiv 10 = (n : Int) / 10 := Int.tdiv_eq_ediv_of_nonneg (by omega)
      have e2 : (n : Int).tmod 10 = (n : Int) % 10 := Int.tmod_eq_emod_of_nonneg (by omega)
      go_enter Tryz.func41, Tryz.ntmps41
      go_wp2_with fail
      refine wp_region_since0 (by kernel_rfl) (by kernel_rfl) ?_
      repeat (any_goals (first | go_big_quiet_step ((go_at_call 41; refine calls_since (Nat.le_refl _) (IH.out _))) | (refine wpQuiet_step (fun K hK => ?_); go_simp; split <;> (refine hK _ ?_; clear hK K))))
      all_goals (refine wpQuiet_nil ?_; rintro _ ⟨q1, rfl⟩)
      go_wp2
      go_ret
      exact ⟨by rw [HD.out, HSV.out, HDV.out, HE.out, ByteArray.mk_append_mk]; rfl, q1.below⟩
/-- Every number up to a thousand millions. -/
theorem l1Num_any (n : Int) (w : World) (h0 : 0 ≤ n) (h1 : n ≤ 1000000000) :
    Calls Tryz.prog 41 #[.int .i64 n] w fun e w' => e = .returned (.string ⟨(Lib.itoa n).toArray⟩) ∧ Below w.heap.size w w' := by
  obtain ⟨m, rfl⟩ := Int.eq_ofNat_of_zero_le h0
  have e : Lib.itoa (m : Int) = Lib.decDigits m := by unfold Lib.itoa; rw [if_neg (by omega), Int.toNat_natCast]
  have e' : Lib.itoa (Int.ofNat m) = Lib.decDigits m := e
  first | rw [e] | rw [e']
  exact l1Num_nat 10 m w (by omega) (by omega)
theorem itoa_len {n : Int} (h0 : 0 ≤ n) (h1 : n ≤ 1000000000) : (⟨(Lib.itoa n).toArray⟩ : ByteArray).size ≤ 100 := by
  unfold Lib.itoa
  rw [if_neg (by omega)]
  exact dec_len (by omega)
end Go.Proofs.YtchkjiadnackaaaGreatDoor

/- The words of a short text (plain). -/
namespace Go.Proofs.YtchkjiadnackaaaGreatDoor

def markT (s : Int) : List UInt8 := if s = 1 then [42, 42] else if s = 2 then [42] else [111]
def copT (c : Int) : List UInt8 := if 1 < c then 40 :: Lib.itoa c ++ [41] else []
def fauT : List Int → List UInt8
  | [] => []
  | f :: l => 33 :: Lib.itoa f ++ fauT l
def priT (p : Int) : List UInt8 := if 0 < p then 61 :: Lib.itoa p else []
end Go.Proofs.YtchkjiadnackaaaGreatDoor

/- The short text of a phrase, in the reference. -/
namespace Go.Proofs.YtchkjiadnackaaaGreatDoor
open Go.RowKit

def shortT (x : Ph) : List UInt8 := markT x.s ++ copT x.c ++ fauT x.f ++ priT x.p
theorem fau_step {l : List Int} {k : Nat} (h : k < l.length) (acc : List UInt8) : acc ++ fauT (l.drop k) = acc ++ (33 :: Lib.itoa l[k]) ++ fauT (l.drop (k + 1)) := by
  rw [List.drop_eq_getElem_cons h, fauT]; simp
theorem itoa_len' {n : Int} (h0 : 0 ≤ n) (h1 : n ≤ 1000000000) : (Lib.itoa n).length ≤ 100 := by
  have := itoa_len h0 h1
  exact this
theorem rises_len {lo hi : Int} : ∀ {l : List Int} {n : Nat} {p : Int}, riseFrom lo hi (n + 1) p l = true → lo ≤ p → (l.length : Int) ≤ hi - p ∨ l = []
  | [], _, _, _, _ => .inr rfl
  | x :: l, n, p, h, hp => by
    simp only [riseFrom, Bool.and_eq_true, inR_iff, Bool.or_eq_true, decide_eq_true_eq] at h
    obtain ⟨⟨⟨h1, h2⟩, h3⟩, h4⟩ := h
    have h5 : p < x := by omega
    left
    rcases rises_len h4 (by omega) with h6 | h6
    · simp only [List.length_cons]; omega
    · rw [h6]; simp; omega
theorem faults_nine {l : List Int} (h : rises 1 9 l = true) : l.length ≤ 9 := by
  cases l with
  | nil => simp
  | cons x l =>
    unfold rises at h
    simp only [riseFrom, Bool.and_eq_true, inR_iff] at h
    rcases rises_len h.2 (by omega) with h1 | h1
    · simp only [List.length_cons]; omega
    · rw [h1]; simp
set_option maxHeartbeats 2000000 in
theorem l30Short_any (x : Ph) (w : World) (h : IntsR w w.heap.size x.A x.f) (hok : x.ok = true) :
    Calls Tryz.prog 26 #[x.val] w fun e w' => e = .returned (.string ⟨(shortT x).toArray⟩) ∧ Below w.heap.size w w' := by
  obtain ⟨⟨s1, s2⟩, ⟨c1, c2⟩, hr, p1, p2⟩ := Ph.bounds hok
  have hnine := faults_nine hr
  have HRI : Hid (∀ i (hi : i < x.f.length), 1 ≤ x.f[i] ∧ x.f[i] ≤ 9) := fun i hi => by
    rw [rises_eq, Bool.and_eq_true, List.all_eq_true] at hr
    exact inR_iff.1 (hr.2 _ (List.getElem_mem hi))
  clear hr hok
  have hb1 := ((Below.refl w.heap.size w).alloc (Nat.le_refl _) (.cells #[.int .i64 x.s, .int .i64 x.c, .slice x.A x.f.length x.cap, .int .i64 x.p] 26)).alloc (by simp) (.cells #[.string ⟨#[42, 42]⟩, .string ⟨#[42]⟩, .string ⟨#[111]⟩] 9)
  have hS := PhS.of (x := x) ((Lies.new w 26 #[.int .i64 x.s, .int .i64 x.c, .slice x.A x.f.length x.cap, .int .i64 x.p]).alloc (.cells #[.string ⟨#[42, 42]⟩, .string ⟨#[42]⟩, .string ⟨#[111]⟩] 9))
  have hR := SlcR.up h hb1 (Nat.le_refl _)
  have k2 := hS.c2
  have k3 := hS.c3
  clear hS
  have hs : x.s = 1 ∨ x.s = 2 ∨ x.s = 3 := by omega
  by_cases hc1 : 1 < x.c
  · have HC : Hid (copT x.c = 40 :: Lib.itoa x.c ++ [41]) := by unfold copT Hid; rw [if_pos hc1]
    obtain ⟨cv, hcv⟩ : ∃ s : ByteArray, s = ⟨(Lib.itoa x.c).toArray⟩ := ⟨_, rfl⟩
    have hcs : cv.size ≤ 100 := by rw [hcv]; exact itoa_len (by omega) (by omega)
    have NUMC : ∀ W : World, Calls Tryz.prog 41 #[.int .i64 x.c] W fun e w' => e = .returned (.string cv) ∧ Below W.heap.size W w' := by
      intro W; rw [hcv]; exact l1Num_any _ _ (by omega) (by omega)
    replace NUMC := Lib.hid NUMC
    have HCV : Hid (bl cv = Lib.itoa x.c) := by rw [hcv, Hid, bl_mk]
    clear hcv
    rcases hs with hs | hs | hs
    · have HM : Hid (markT x.s = [42, 42]) := by rw [hs]; rfl
      rw [hs] at hb1 hR k2 k3
      clear s1 s2
      go_enter Tryz.func26, Tryz.ntmps26
      go_wp2_with (go_at_call 41; refine (NUMC.out _).mono ?_; rintro e w1 ⟨rfl, hb2⟩)
      generalize ((w.alloc (.cells #[.int .i64 1, .int .i64 x.c, .slice x.A x.f.length x.cap, .int .i64 x.p] 26)).alloc (.cells #[.string ⟨#[42, 42]⟩, .string ⟨#[42]⟩, .string ⟨#[111]⟩] 9)) = W at k2 k3 hb1 hR hb2 ⊢
      go_loopw [3, 4] (fun s i wr => ∃ (k : Nat) (T : ByteArray), k ≤ x.f.length ∧ i = .int .i64 k ∧ s = .string T ∧ T.size ≤ 300 + 101 * k ∧ (∃ q : Since W.heap.size W, wr = q.val) ∧ Hid (bl T ++ fauT (x.f.drop k) = markT x.s ++ copT x.c ++ fauT x.f)) (fun _ i _ => x.f.length - (intOf i).toNat)
      case atStart => exact ⟨0, _, Nat.zero_le _, rfl, rfl, by simp only [size_app]; (have e1 : (⟨#[40]⟩ : ByteArray).size = 1 := rfl); (have e2 : (⟨#[41]⟩ : ByteArray).size = 1 := rfl); (have e3 : (⟨#[42, 42]⟩ : ByteArray).size ≤ 2 := by decide); omega, ⟨⟨_, hb2⟩, rfl⟩, by rw [Hid, HM.out, HC.out, List.drop_zero]; simp [bl_app, bl_lit, HCV.out]⟩
      case round =>
        obtain ⟨k, T, hk, rfl, rfl, hT, ⟨q, rfl⟩, HR⟩ := hrel
        by_cases hlt : k < x.f.length
        · obtain ⟨b, off, hA, hb, hcell⟩ := IntsR.ints hR (by omega)
          have c0 := hcell k hlt
          obtain ⟨f1, f2⟩ := HRI.out k hlt
          have HS := Lib.hid (fau_step hlt (bl T))
          obtain ⟨f, hfe⟩ : ∃ f, f = x.f[k] := ⟨_, rfl⟩
          rw [← hfe] at c0 f1 f2 HS
          simp only [hA] at k2
          clear hfe hcell hA
          obtain ⟨fv, hfv⟩ : ∃ s : ByteArray, s = ⟨(Lib.itoa f).toArray⟩ := ⟨_, rfl⟩
          have hfs : fv.size ≤ 100 := by rw [hfv]; exact itoa_len (by omega) (by omega)
          have NUMF : ∀ W : World, Calls Tryz.prog 41 #[.int .i64 f] W fun e w' => e = .returned (.string fv) ∧ Below W.heap.size W w' := by
            intro W; rw [hfv]; exact l1Num_any _ _ (by omega) (by omega)
          replace NUMF := Lib.hid NUMF
          have HFV : Hid (bl fv = Lib.itoa f) := by rw [hfv, Hid, bl_mk]
          clear hfv
          go_wp2_with (go_at_call 41; refine (NUMF.out _).mono ?_; rintro e w4 ⟨rfl, hb4⟩)
          go_roundw
          case rel => exact ⟨k + 1, _, by omega, by go_num, rfl, by simp only [size_app]; (have e1 : (⟨#[33]⟩ : ByteArray).size = 1 := rfl); omega, ⟨q.go (Nat.le_refl _) hb4, rfl⟩, by have h1 := HR.out; rw [HS.out] at h1; rw [Hid, ← h1]; simp [bl_app, bl_lit, HFV.out]⟩
          case measure => simp [intOf]; omega
        · have HE : Hid (bl T = markT x.s ++ copT x.c ++ fauT x.f) := by
            have h1 := HR.out; rw [List.drop_eq_nil_of_le (by omega), fauT, List.append_nil] at h1; exact h1
          by_cases hp : 0 < x.p
          · have HP : Hid (priT x.p = 61 :: Lib.itoa x.p) := by unfold priT Hid; rw [if_pos hp]
            obtain ⟨pv, hpv⟩ : ∃ s : ByteArray, s = ⟨(Lib.itoa x.p).toArray⟩ := ⟨_, rfl⟩
            have hps : pv.size ≤ 100 := by rw [hpv]; exact itoa_len (by omega) (by omega)
            have NUMP : ∀ W : World, Calls Tryz.prog 41 #[.int .i64 x.p] W fun e w' => e = .returned (.string pv) ∧ Below W.heap.size W w' := by
              intro W; rw [hpv]; exact l1Num_any _ _ (by omega) (by omega)
            replace NUMP := Lib.hid NUMP
            have HPV : Hid (bl pv = Lib.itoa x.p) := by rw [hpv, Hid, bl_mk]
            clear hpv
            go_wp2_with (go_at_call 41; refine (NUMP.out _).mono ?_; rintro e w3 ⟨rfl, hb3⟩)
            go_ret
            exact ⟨congrArg (fun s => Ending.returned (Value.string s)) (bl_ext (by unfold shortT; simp [bl_app, bl_lit, HE.out, HP.out, HPV.out])), hb1.trans ((q.below.trans (hb3.mono q.size)).mono hb1.size)⟩
          · have HP : Hid (priT x.p = []) := by unfold priT Hid; rw [if_neg hp]
            go_wp2
            go_ret
            exact ⟨congrArg (fun s => Ending.returned (Value.string s)) (bl_ext (by unfold shortT; simp [HE.out, HP.out])), hb1.trans (q.below.mono hb1.size)⟩
    · have HM : Hid (markT x.s = [42]) := by rw [hs]; rfl
      rw [hs] at hb1 hR k2 k3
      clear s1 s2
      go_enter Tryz.func26, Tryz.ntmps26
      go_wp2_with (go_at_call 41; refine (NUMC.out _).mono ?_; rintro e w1 ⟨rfl, hb2⟩)
      generalize ((w.alloc (.cells #[.int .i64 2, .int .i64 x.c, .slice x.A x.f.length x.cap, .int .i64 x.p] 26)).alloc (.cells #[.string ⟨#[42, 42]⟩, .string ⟨#[42]⟩, .string ⟨#[111]⟩] 9)) = W at k2 k3 hb1 hR hb2 ⊢
      go_loopw [3, 4] (fun s i wr => ∃ (k : Nat) (T : ByteArray), k ≤ x.f.length ∧ i = .int .i64 k ∧ s = .string T ∧ T.size ≤ 300 + 101 * k ∧ (∃ q : Since W.heap.size W, wr = q.val) ∧ Hid (bl T ++ fauT (x.f.drop k) = markT x.s ++ copT x.c ++ fauT x.f)) (fun _ i _ => x.f.length - (intOf i).toNat)
      case atStart => exact ⟨0, _, Nat.zero_le _, rfl, rfl, by simp only [size_app]; (have e1 : (⟨#[40]⟩ : ByteArray).size = 1 := rfl); (have e2 : (⟨#[41]⟩ : ByteArray).size = 1 := rfl); (have e3 : (⟨#[42]⟩ : ByteArray).size ≤ 2 := by decide); omega, ⟨⟨_, hb2⟩, rfl⟩, by rw [Hid, HM.out, HC.out, List.drop_zero]; simp [bl_app, bl_lit, HCV.out]⟩
      case round =>
        obtain ⟨k, T, hk, rfl, rfl, hT, ⟨q, rfl⟩, HR⟩ := hrel
        by_cases hlt : k < x.f.length
        · obtain ⟨b, off, hA, hb, hcell⟩ := IntsR.ints hR (by omega)
          have c0 := hcell k hlt
          obtain ⟨f1, f2⟩ := HRI.out k hlt
          have HS := Lib.hid (fau_step hlt (bl T))
          obtain ⟨f, hfe⟩ : ∃ f, f = x.f[k] := ⟨_, rfl⟩
          rw [← hfe] at c0 f1 f2 HS
          simp only [hA] at k2
          clear hfe hcell hA
          obtain ⟨fv, hfv⟩ : ∃ s : ByteArray, s = ⟨(Lib.itoa f).toArray⟩ := ⟨_, rfl⟩
          have hfs : fv.size ≤ 100 := by rw [hfv]; exact itoa_len (by omega) (by omega)
          have NUMF : ∀ W : World, Calls Tryz.prog 41 #[.int .i64 f] W fun e w' => e = .returned (.string fv) ∧ Below W.heap.size W w' := by
            intro W; rw [hfv]; exact l1Num_any _ _ (by omega) (by omega)
          replace NUMF := Lib.hid NUMF
          have HFV : Hid (bl fv = Lib.itoa f) := by rw [hfv, Hid, bl_mk]
          clear hfv
          go_wp2_with (go_at_call 41; refine (NUMF.out _).mono ?_; rintro e w4 ⟨rfl, hb4⟩)
          go_roundw
          case rel => exact ⟨k + 1, _, by omega, by go_num, rfl, by simp only [size_app]; (have e1 : (⟨#[33]⟩ : ByteArray).size = 1 := rfl); omega, ⟨q.go (Nat.le_refl _) hb4, rfl⟩, by have h1 := HR.out; rw [HS.out] at h1; rw [Hid, ← h1]; simp [bl_app, bl_lit, HFV.out]⟩
          case measure => simp [intOf]; omega
        · have HE : Hid (bl T = markT x.s ++ copT x.c ++ fauT x.f) := by
            have h1 := HR.out; rw [List.drop_eq_nil_of_le (by omega), fauT, List.append_nil] at h1; exact h1
          by_cases hp : 0 < x.p
          · have HP : Hid (priT x.p = 61 :: Lib.itoa x.p) := by unfold priT Hid; rw [if_pos hp]
            obtain ⟨pv, hpv⟩ : ∃ s : ByteArray, s = ⟨(Lib.itoa x.p).toArray⟩ := ⟨_, rfl⟩
            have hps : pv.size ≤ 100 := by rw [hpv]; exact itoa_len (by omega) (by omega)
            have NUMP : ∀ W : World, Calls Tryz.prog 41 #[.int .i64 x.p] W fun e w' => e = .returned (.string pv) ∧ Below W.heap.size W w' := by
              intro W; rw [hpv]; exact l1Num_any _ _ (by omega) (by omega)
            replace NUMP := Lib.hid NUMP
            have HPV : Hid (bl pv = Lib.itoa x.p) := by rw [hpv, Hid, bl_mk]
            clear hpv
            go_wp2_with (go_at_call 41; refine (NUMP.out _).mono ?_; rintro e w3 ⟨rfl, hb3⟩)
            go_ret
            exact ⟨congrArg (fun s => Ending.returned (Value.string s)) (bl_ext (by unfold shortT; simp [bl_app, bl_lit, HE.out, HP.out, HPV.out])), hb1.trans ((q.below.trans (hb3.mono q.size)).mono hb1.size)⟩
          · have HP : Hid (priT x.p = []) := by unfold priT Hid; rw [if_neg hp]
            go_wp2
            go_ret
            exact ⟨congrArg (fun s => Ending.returned (Value.string s)) (bl_ext (by unfold shortT; simp [HE.out, HP.out])), hb1.trans (q.below.mono hb1.size)⟩
    · have HM : Hid (markT x.s = [111]) := by rw [hs]; rfl
      rw [hs] at hb1 hR k2 k3
      clear s1 s2
      go_enter Tryz.func26, Tryz.ntmps26
      go_wp2_with (go_at_call 41; refine (NUMC.out _).mono ?_; rintro e w1 ⟨rfl, hb2⟩)
      generalize ((w.alloc (.cells #[.int .i64 3, .int .i64 x.c, .slice x.A x.f.length x.cap, .int .i64 x.p] 26)).alloc (.cells #[.string ⟨#[42, 42]⟩, .string ⟨#[42]⟩, .string ⟨#[111]⟩] 9)) = W at k2 k3 hb1 hR hb2 ⊢
      go_loopw [3, 4] (fun s i wr => ∃ (k : Nat) (T : ByteArray), k ≤ x.f.length ∧ i = .int .i64 k ∧ s = .string T ∧ T.size ≤ 300 + 101 * k ∧ (∃ q : Since W.heap.size W, wr = q.val) ∧ Hid (bl T ++ fauT (x.f.drop k) = markT x.s ++ copT x.c ++ fauT x.f)) (fun _ i _ => x.f.length - (intOf i).toNat)
      case atStart => exact ⟨0, _, Nat.zero_le _, rfl, rfl, by simp only [size_app]; (have e1 : (⟨#[40]⟩ : ByteArray).size = 1 := rfl); (have e2 : (⟨#[41]⟩ : ByteArray).size = 1 := rfl); (have e3 : (⟨#[111]⟩ : ByteArray).size ≤ 2 := by decide); omega, ⟨⟨_, hb2⟩, rfl⟩, by rw [Hid, HM.out, HC.out, List.drop_zero]; simp [bl_app, bl_lit, HCV.out]⟩
      case round =>
        obtain ⟨k, T, hk, rfl, rfl, hT, ⟨q, rfl⟩, HR⟩ := hrel
        by_cases hlt : k < x.f.length
        · obtain ⟨b, off, hA, hb, hcell⟩ := IntsR.ints hR (by omega)
          have c0 := hcell k hlt
          obtain ⟨f1, f2⟩ := HRI.out k hlt
          have HS := Lib.hid (fau_step hlt (bl T))
          obtain ⟨f, hfe⟩ : ∃ f, f = x.f[k] := ⟨_, rfl⟩
          rw [← hfe] at c0 f1 f2 HS
          simp only [hA] at k2
          clear hfe hcell hA
          obtain ⟨fv, hfv⟩ : ∃ s : ByteArray, s = ⟨(Lib.itoa f).toArray⟩ := ⟨_, rfl⟩
          have hfs : fv.size ≤ 100 := by rw [hfv]; exact itoa_len (by omega) (by omega)
          have NUMF : ∀ W : World, Calls Tryz.prog 41 #[.int .i64 f] W fun e w' => e = .returned (.string fv) ∧ Below W.heap.size W w' := by
            intro W; rw [hfv]; exact l1Num_any _ _ (by omega) (by omega)
          replace NUMF := Lib.hid NUMF
          have HFV : Hid (bl fv = Lib.itoa f) := by rw [hfv, Hid, bl_mk]
          clear hfv
          go_wp2_with (go_at_call 41; refine (NUMF.out _).mono ?_; rintro e w4 ⟨rfl, hb4⟩)
          go_roundw
          case rel => exact ⟨k + 1, _, by omega, by go_num, rfl, by simp only [size_app]; (have e1 : (⟨#[33]⟩ : ByteArray).size = 1 := rfl); omega, ⟨q.go (Nat.le_refl _) hb4, rfl⟩, by have h1 := HR.out; rw [HS.out] at h1; rw [Hid, ← h1]; simp [bl_app, bl_lit, HFV.out]⟩
          case measure => simp [intOf]; omega
        · have HE : Hid (bl T = markT x.s ++ copT x.c ++ fauT x.f) := by
            have h1 := HR.out; rw [List.drop_eq_nil_of_le (by omega), fauT, List.append_nil] at h1; exact h1
          by_cases hp : 0 < x.p
          · have HP : Hid (priT x.p = 61 :: Lib.itoa x.p) := by unfold priT Hid; rw [if_pos hp]
            obtain ⟨pv, hpv⟩ : ∃ s : ByteArray, s = ⟨(Lib.itoa x.p).toArray⟩ := ⟨_, rfl⟩
            have hps : pv.size ≤ 100 := by rw [hpv]; exact itoa_len (by omega) (by omega)
            have NUMP : ∀ W : World, Calls Tryz.prog 41 #[.int .i64 x.p] W fun e w' => e = .returned (.string pv) ∧ Below W.heap.size W w' := by
              intro W; rw [hpv]; exact l1Num_any _ _ (by omega) (by omega)
            replace NUMP := Lib.hid NUMP
            have HPV : Hid (bl pv = Lib.itoa x.p) := by rw [hpv, Hid, bl_mk]
            clear hpv
            go_wp2_with (go_at_call 41; refine (NUMP.out _).mono ?_; rintro e w3 ⟨rfl, hb3⟩)
            go_ret
            exact ⟨congrArg (fun s => Ending.returned (Value.string s)) (bl_ext (by unfold shortT; simp [bl_app, bl_lit, HE.out, HP.out, HPV.out])), hb1.trans ((q.below.trans (hb3.mono q.size)).mono hb1.size)⟩
          · have HP : Hid (priT x.p = []) := by unfold priT Hid; rw [if_neg hp]
            go_wp2
            go_ret
            exact ⟨congrArg (fun s => Ending.returned (Value.string s)) (bl_ext (by unfold shortT; simp [HE.out, HP.out])), hb1.trans (q.below.mono hb1.size)⟩
  · have HC : Hid (copT x.c = []) := by unfold copT Hid; rw [if_neg hc1]
    rcases hs with hs | hs | hs
    · have HM : Hid (markT x.s = [42, 42]) := by rw [hs]; rfl
      rw [hs] at hb1 hR k2 k3
      clear s1 s2
      go_enter Tryz.func26, Tryz.ntmps26
      go_wp2_with fail
      generalize ((w.alloc (.cells #[.int .i64 1, .int .i64 x.c, .slice x.A x.f.length x.cap, .int .i64 x.p] 26)).alloc (.cells #[.string ⟨#[42, 42]⟩, .string ⟨#[42]⟩, .string ⟨#[111]⟩] 9)) = W at k2 k3 hb1 hR ⊢
      go_loopw [3, 4] (fun s i wr => ∃ (k : Nat) (T : ByteArray), k ≤ x.f.length ∧ i = .int .i64 k ∧ s = .string T ∧ T.size ≤ 300 + 101 * k ∧ (∃ q : Since W.heap.size W, wr = q.val) ∧ Hid (bl T ++ fauT (x.f.drop k) = markT x.s ++ copT x.c ++ fauT x.f)) (fun _ i _ => x.f.length - (intOf i).toNat)
      case atStart => exact ⟨0, _, Nat.zero_le _, rfl, rfl, by (have e3 : (⟨#[42, 42]⟩ : ByteArray).size ≤ 2 := by decide); omega, ⟨Since.start _ _, rfl⟩, by rw [Hid, HM.out, HC.out, List.drop_zero]; simp [bl_lit]⟩
      case round =>
        obtain ⟨k, T, hk, rfl, rfl, hT, ⟨q, rfl⟩, HR⟩ := hrel
        by_cases hlt : k < x.f.length
        · obtain ⟨b, off, hA, hb, hcell⟩ := IntsR.ints hR (by omega)
          have c0 := hcell k hlt
          obtain ⟨f1, f2⟩ := HRI.out k hlt
          have HS := Lib.hid (fau_step hlt (bl T))
          obtain ⟨f, hfe⟩ : ∃ f, f = x.f[k] := ⟨_, rfl⟩
          rw [← hfe] at c0 f1 f2 HS
          simp only [hA] at k2
          clear hfe hcell hA
          obtain ⟨fv, hfv⟩ : ∃ s : ByteArray, s = ⟨(Lib.itoa f).toArray⟩ := ⟨_, rfl⟩
          have hfs : fv.size ≤ 100 := by rw [hfv]; exact itoa_len (by omega) (by omega)
          have NUMF : ∀ W : World, Calls Tryz.prog 41 #[.int .i64 f] W fun e w' => e = .returned (.string fv) ∧ Below W.heap.size W w' := by
            intro W; rw [hfv]; exact l1Num_any _ _ (by omega) (by omega)
          replace NUMF := Lib.hid NUMF
          have HFV : Hid (bl fv = Lib.itoa f) := by rw [hfv, Hid, bl_mk]
          clear hfv
          go_wp2_with (go_at_call 41; refine (NUMF.out _).mono ?_; rintro e w4 ⟨rfl, hb4⟩)
          go_roundw
          case rel => exact ⟨k + 1, _, by omega, by go_num, rfl, by simp only [size_app]; (have e1 : (⟨#[33]⟩ : ByteArray).size = 1 := rfl); omega, ⟨q.go (Nat.le_refl _) hb4, rfl⟩, by have h1 := HR.out; rw [HS.out] at h1; rw [Hid, ← h1]; simp [bl_app, bl_lit, HFV.out]⟩
          case measure => simp [intOf]; omega
        · have HE : Hid (bl T = markT x.s ++ copT x.c ++ fauT x.f) := by
            have h1 := HR.out; rw [List.drop_eq_nil_of_le (by omega), fauT, List.append_nil] at h1; exact h1
          by_cases hp : 0 < x.p
          · have HP : Hid (priT x.p = 61 :: Lib.itoa x.p) := by unfold priT Hid; rw [if_pos hp]
            obtain ⟨pv, hpv⟩ : ∃ s : ByteArray, s = ⟨(Lib.itoa x.p).toArray⟩ := ⟨_, rfl⟩
            have hps : pv.size ≤ 100 := by rw [hpv]; exact itoa_len (by omega) (by omega)
            have NUMP : ∀ W : World, Calls Tryz.prog 41 #[.int .i64 x.p] W fun e w' => e = .returned (.string pv) ∧ Below W.heap.size W w' := by
              intro W; rw [hpv]; exact l1Num_any _ _ (by omega) (by omega)
            replace NUMP := Lib.hid NUMP
            have HPV : Hid (bl pv = Lib.itoa x.p) := by rw [hpv, Hid, bl_mk]
            clear hpv
            go_wp2_with (go_at_call 41; refine (NUMP.out _).mono ?_; rintro e w3 ⟨rfl, hb3⟩)
            go_ret
            exact ⟨congrArg (fun s => Ending.returned (Value.string s)) (bl_ext (by unfold shortT; simp [bl_app, bl_lit, HE.out, HP.out, HPV.out])), hb1.trans ((q.below.trans (hb3.mono q.size)).mono hb1.size)⟩
          · have HP : Hid (priT x.p = []) := by unfold priT Hid; rw [if_neg hp]
            go_wp2
            go_ret
            exact ⟨congrArg (fun s => Ending.returned (Value.string s)) (bl_ext (by unfold shortT; simp [HE.out, HP.out])), hb1.trans (q.below.mono hb1.size)⟩
    · have HM : Hid (markT x.s = [42]) := by rw [hs]; rfl
      rw [hs] at hb1 hR k2 k3
      clear s1 s2
      go_enter Tryz.func26, Tryz.ntmps26
      go_wp2_with fail
      generalize ((w.alloc (.cells #[.int .i64 2, .int .i64 x.c, .slice x.A x.f.length x.cap, .int .i64 x.p] 26)).alloc (.cells #[.string ⟨#[42, 42]⟩, .string ⟨#[42]⟩, .string ⟨#[111]⟩] 9)) = W at k2 k3 hb1 hR ⊢
      go_loopw [3, 4] (fun s i wr => ∃ (k : Nat) (T : ByteArray), k ≤ x.f.length ∧ i = .int .i64 k ∧ s = .string T ∧ T.size ≤ 300 + 101 * k ∧ (∃ q : Since W.heap.size W, wr = q.val) ∧ Hid (bl T ++ fauT (x.f.drop k) = markT x.s ++ copT x.c ++ fauT x.f)) (fun _ i _ => x.f.length - (intOf i).toNat)
      case atStart => exact ⟨0, _, Nat.zero_le _, rfl, rfl, by (have e3 : (⟨#[42]⟩ : ByteArray).size ≤ 2 := by decide); omega, ⟨Since.start _ _, rfl⟩, by rw [Hid, HM.out, HC.out, List.drop_zero]; simp [bl_lit]⟩
      case round =>
        obtain ⟨k, T, hk, rfl, rfl, hT, ⟨q, rfl⟩, HR⟩ := hrel
        by_cases hlt : k < x.f.length
        · obtain ⟨b, off, hA, hb, hcell⟩ := IntsR.ints hR (by omega)
          have c0 := hcell k hlt
          obtain ⟨f1, f2⟩ := HRI.out k hlt
          have HS := Lib.hid (fau_step hlt (bl T))
          obtain ⟨f, hfe⟩ : ∃ f, f = x.f[k] := ⟨_, rfl⟩
          rw [← hfe] at c0 f1 f2 HS
          simp only [hA] at k2
          clear hfe hcell hA
          obtain ⟨fv, hfv⟩ : ∃ s : ByteArray, s = ⟨(Lib.itoa f).toArray⟩ := ⟨_, rfl⟩
          have hfs : fv.size ≤ 100 := by rw [hfv]; exact itoa_len (by omega) (by omega)
          have NUMF : ∀ W : World, Calls Tryz.prog 41 #[.int .i64 f] W fun e w' => e = .returned (.string fv) ∧ Below W.heap.size W w' := by
            intro W; rw [hfv]; exact l1Num_any _ _ (by omega) (by omega)
          replace NUMF := Lib.hid NUMF
          have HFV : Hid (bl fv = Lib.itoa f) := by rw [hfv, Hid, bl_mk]
          clear hfv
          go_wp2_with (go_at_call 41; refine (NUMF.out _).mono ?_; rintro e w4 ⟨rfl, hb4⟩)
          go_roundw
          case rel => exact ⟨k + 1, _, by omega, by go_num, rfl, by simp only [size_app]; (have e1 : (⟨#[33]⟩ : ByteArray).size = 1 := rfl); omega, ⟨q.go (Nat.le_refl _) hb4, rfl⟩, by have h1 := HR.out; rw [HS.out] at h1; rw [Hid, ← h1]; simp [bl_app, bl_lit, HFV.out]⟩
          case measure => simp [intOf]; omega
        · have HE : Hid (bl T = markT x.s ++ copT x.c ++ fauT x.f) := by
            have h1 := HR.out; rw [List.drop_eq_nil_of_le (by omega), fauT, List.append_nil] at h1; exact h1
          by_cases hp : 0 < x.p
          · have HP : Hid (priT x.p = 61 :: Lib.itoa x.p) := by unfold priT Hid; rw [if_pos hp]
            obtain ⟨pv, hpv⟩ : ∃ s : ByteArray, s = ⟨(Lib.itoa x.p).toArray⟩ := ⟨_, rfl⟩
            have hps : pv.size ≤ 100 := by rw [hpv]; exact itoa_len (by omega) (by omega)
            have NUMP : ∀ W : World, Calls Tryz.prog 41 #[.int .i64 x.p] W fun e w' => e = .returned (.string pv) ∧ Below W.heap.size W w' := by
              intro W; rw [hpv]; exact l1Num_any _ _ (by omega) (by omega)
            replace NUMP := Lib.hid NUMP
            have HPV : Hid (bl pv = Lib.itoa x.p) := by rw [hpv, Hid, bl_mk]
            clear hpv
            go_wp2_with (go_at_call 41; refine (NUMP.out _).mono ?_; rintro e w3 ⟨rfl, hb3⟩)
            go_ret
            exact ⟨congrArg (fun s => Ending.returned (Value.string s)) (bl_ext (by unfold shortT; simp [bl_app, bl_lit, HE.out, HP.out, HPV.out])), hb1.trans ((q.below.trans (hb3.mono q.size)).mono hb1.size)⟩
          · have HP : Hid (priT x.p = []) := by unfold priT Hid; rw [if_neg hp]
            go_wp2
            go_ret
            exact ⟨congrArg (fun s => Ending.returned (Value.string s)) (bl_ext (by unfold shortT; simp [HE.out, HP.out])), hb1.trans (q.below.mono hb1.size)⟩
    · have HM : Hid (markT x.s = [111]) := by rw [hs]; rfl
      rw [hs] at hb1 hR k2 k3
      clear s1 s2
      go_enter Tryz.func26, Tryz.ntmps26
      go_wp2_with fail
      generalize ((w.alloc (.cells #[.int .i64 3, .int .i64 x.c, .slice x.A x.f.length x.cap, .int .i64 x.p] 26)).alloc (.cells #[.string ⟨#[42, 42]⟩, .string ⟨#[42]⟩, .string ⟨#[111]⟩] 9)) = W at k2 k3 hb1 hR ⊢
      go_loopw [3, 4] (fun s i wr => ∃ (k : Nat) (T : ByteArray), k ≤ x.f.length ∧ i = .int .i64 k ∧ s = .string T ∧ T.size ≤ 300 + 101 * k ∧ (∃ q : Since W.heap.size W, wr = q.val) ∧ Hid (bl T ++ fauT (x.f.drop k) = markT x.s ++ copT x.c ++ fauT x.f)) (fun _ i _ => x.f.length - (intOf i).toNat)
      case atStart => exact ⟨0, _, Nat.zero_le _, rfl, rfl, by (have e3 : (⟨#[111]⟩ : ByteArray).size ≤ 2 := by decide); omega, ⟨Since.start _ _, rfl⟩, by rw [Hid, HM.out, HC.out, List.drop_zero]; simp [bl_lit]⟩
      case round =>
        obtain ⟨k, T, hk, rfl, rfl, hT, ⟨q, rfl⟩, HR⟩ := hrel
        by_cases hlt : k < x.f.length
        · obtain ⟨b, off, hA, hb, hcell⟩ := IntsR.ints hR (by omega)
          have c0 := hcell k hlt
          obtain ⟨f1, f2⟩ := HRI.out k hlt
          have HS := Lib.hid (fau_step hlt (bl T))
          obtain ⟨f, hfe⟩ : ∃ f, f = x.f[k] := ⟨_, rfl⟩
          rw [← hfe] at c0 f1 f2 HS
          simp only [hA] at k2
          clear hfe hcell hA
          obtain ⟨fv, hfv⟩ : ∃ s : ByteArray, s = ⟨(Lib.itoa f).toArray⟩ := ⟨_, rfl⟩
          have hfs : fv.size ≤ 100 := by rw [hfv]; exact itoa_len (by omega) (by omega)
          have NUMF : ∀ W : World, Calls Tryz.prog 41 #[.int .i64 f] W fun e w' => e = .returned (.string fv) ∧ Below W.heap.size W w' := by
            intro W; rw [hfv]; exact l1Num_any _ _ (by omega) (by omega)
          replace NUMF := Lib.hid NUMF
          have HFV : Hid (bl fv = Lib.itoa f) := by rw [hfv, Hid, bl_mk]
          clear hfv
          go_wp2_with (go_at_call 41; refine (NUMF.out _).mono ?_; rintro e w4 ⟨rfl, hb4⟩)
          go_roundw
          case rel => exact ⟨k + 1, _, by omega, by go_num, rfl, by simp only [size_app]; (have e1 : (⟨#[33]⟩ : ByteArray).size = 1 := rfl); omega, ⟨q.go (Nat.le_refl _) hb4, rfl⟩, by have h1 := HR.out; rw [HS.out] at h1; rw [Hid, ← h1]; simp [bl_app, bl_lit, HFV.out]⟩
          case measure => simp [intOf]; omega
        · have HE : Hid (bl T = markT x.s ++ copT x.c ++ fauT x.f) := by
            have h1 := HR.out; rw [List.drop_eq_nil_of_le (by omega), fauT, List.append_nil] at h1; exact h1
          by_cases hp : 0 < x.p
          · have HP : Hid (priT x.p = 61 :: Lib.itoa x.p) := by unfold priT Hid; rw [if_pos hp]
            obtain ⟨pv, hpv⟩ : ∃ s : ByteArray, s = ⟨(Lib.itoa x.p).toArray⟩ := ⟨_, rfl⟩
            have hps : pv.size ≤ 100 := by rw [hpv]; exact itoa_len (by omega) (by omega)
            have NUMP : ∀ W : World, Calls Tryz.prog 41 #[.int .i64 x.p] W fun e w' => e = .returned (.string pv) ∧ Below W.heap.size W w' := by
              intro W; rw [hpv]; exact l1Num_any _ _ (by omega) (by omega)
            replace NUMP := Lib.hid NUMP
            have HPV : Hid (bl pv = Lib.itoa x.p) := by rw [hpv, Hid, bl_mk]
            clear hpv
            go_wp2_with (go_at_call 41; refine (NUMP.out _).mono ?_; rintro e w3 ⟨rfl, hb3⟩)
            go_ret
            exact ⟨congrArg (fun s => Ending.returned (Value.string s)) (bl_ext (by unfold shortT; simp [bl_app, bl_lit, HE.out, HP.out, HPV.out])), hb1.trans ((q.below.trans (hb3.mono q.size)).mono hb1.size)⟩
          · have HP : Hid (priT x.p = []) := by unfold priT Hid; rw [if_neg hp]
            go_wp2
            go_ret
            exact ⟨congrArg (fun s => Ending.returned (Value.string s)) (bl_ext (by unfold shortT; simp [HE.out, HP.out])), hb1.trans (q.below.mono hb1.size)⟩
end Go.Proofs.YtchkjiadnackaaaGreatDoor
