/- FaultTally, in the reference and in the program. -/
import Derived.Test.YtjdedcalbcnkmaaPhrGood
import Derived.Test.YtjdedcalbcnkmaaPhrMark
namespace Go.Proofs.Ytjdedcalbcnkmaa
open Go.RowKit

def bump (acc : List Int) (f c : Int) : List Int := acc.set (f - 1).toNat (acc.getD (f - 1).toNat 0 + c)
def tallyX (c : Int) : List Int → List Int → List Int
  | [], acc => acc
  | f :: fs, acc => tallyX c fs (bump acc f c)
def tallyFrom : List Ph → List Int → List Int
  | [], acc => acc
  | x :: l, acc => tallyFrom l (tallyX x.c x.f acc)
def tallyR (l : List Ph) : List Int := if goodPhs l then tallyFrom l (List.replicate 9 0) else []
theorem tallyX_step {c : Int} {l : List Int} {k : Nat} (h : k < l.length) (acc : List Int) : tallyX c (l.drop k) acc = tallyX c (l.drop (k + 1)) (bump acc l[k] c) := by
  rw [List.drop_eq_getElem_cons h]; rfl
theorem tally_step {l : List Ph} {k : Nat} (h : k < l.length) (acc : List Int) : tallyFrom (l.drop k) acc = tallyFrom (l.drop (k + 1)) (tallyX l[k].c l[k].f acc) := by
  rw [List.drop_eq_getElem_cons h]; rfl
theorem bump_len (acc : List Int) (f c : Int) : (bump acc f c).length = acc.length := by simp [bump]
theorem tallyX_len (c : Int) : ∀ (l : List Int) (acc : List Int), (tallyX c l acc).length = acc.length
  | [], _ => rfl
  | f :: l, acc => by rw [tallyX, tallyX_len c l, bump_len]
theorem tallyFrom_len : ∀ (l : List Ph) (acc : List Int), (tallyFrom l acc).length = acc.length
  | [], _ => rfl
  | x :: l, acc => by rw [tallyFrom, tallyFrom_len l, tallyX_len]
theorem tallyR_len (l : List Ph) : (tallyR l).length ≤ 9 := by
  unfold tallyR
  split
  · rw [tallyFrom_len]; simp
  · simp
theorem tally_ph : ∀ {a b : List Ph} (s : List Int), a.map Ph.ph = b.map Ph.ph → tallyFrom a s = tallyFrom b s
  | [], [], _, _ => rfl
  | [], _ :: _, _, h => by simp at h
  | _ :: _, [], _, h => by simp at h
  | x :: a, y :: b, s, h => by
    simp only [List.map_cons, List.cons.injEq] at h
    have h1 := h.1; unfold Ph.ph at h1; injection h1 with h1 h2; injection h2 with h2 h3; injection h3 with h3 h4
    rw [tallyFrom, tallyFrom, h2, h3]; exact tally_ph _ h.2
theorem tallyR_ph {a b : List Ph} (h : a.map Ph.ph = b.map Ph.ph) : tallyR a = tallyR b := by unfold tallyR; rw [good_ph h, tally_ph _ h]

/-- Nine numbers, each at most m. -/
structure Nine (acc : List Int) (m : Nat) : Prop where
  len : acc.length = 9
  bd : ∀ i (h : i < acc.length), 0 ≤ acc[i] ∧ acc[i] ≤ 99 * (m : Int)
theorem nine_zero : Nine (List.replicate 9 0) 0 := ⟨rfl, fun i hi => by rw [List.getElem_replicate]; omega⟩
theorem Nine.bump {acc : List Int} {m : Nat} (h : Nine acc m) {n : Nat} (hn : n < 9) {c : Int} (hc : 1 ≤ c) (hc' : c ≤ 99) : Nine (Go.Proofs.Ytjdedcalbcnkmaa.bump acc ((n : Int) + 1) c) (m + 1) := by
  have e : ((n : Int) + 1 - 1).toNat = n := by omega
  refine ⟨by rw [bump_len, h.len], fun i hi => ?_⟩
  have hi' : i < acc.length := by rw [bump_len] at hi; exact hi
  have hb := h.bd i hi'
  have hnn := h.bd n (by rw [h.len]; exact hn)
  unfold Go.Proofs.Ytjdedcalbcnkmaa.bump
  simp only [e, List.getElem_set]
  split
  · rw [List.getD_eq_getElem?_getD, List.getElem?_eq_getElem (by rw [h.len]; exact hn), Option.getD_some]
    omega
  · omega
theorem bump_eq {acc : List Int} {m : Nat} (h : Nine acc m) {n : Nat} (hn : n < 9) (c : Int) : encIs (bump acc ((n : Int) + 1) c) = (encIs acc).set n (.int .i64 (acc[n]'(by rw [h.len]; exact hn) + c)) := by
  have e : ((n : Int) + 1 - 1).toNat = n := by omega
  unfold bump encIs
  rw [e, List.getD_eq_getElem?_getD, List.getElem?_eq_getElem (by rw [h.len]; exact hn), Option.getD_some, List.map_set]
theorem rises_at {lo hi : Int} {l : List Int} (h : rises lo hi l = true) {i : Nat} (hi' : i < l.length) : lo ≤ l[i] ∧ l[i] ≤ hi := by
  rw [rises_eq, Bool.and_eq_true, List.all_eq_true] at h
  exact inR_iff.1 (h.2 _ (List.getElem_mem hi'))
theorem fsum_take_succ {l : List Ph} {k s : Nat} (h : k < l.length) (hs : s = fsum (l.take k)) : s + l[k].f.length = fsum (l.take (k + 1)) := by rw [fsum_take h, hs]

set_option maxHeartbeats 2000000 in
theorem implTally_any (A : Option Addr) (c : Nat) (l : List Ph) (w : World) (h : PhsR w w.heap.size A l) (hn : need l ≤ 1048576) :
    Calls Try.prog 26 #[.slice A l.length c] w fun e w' => ∃ A' c', e = .returned (.tuple #[.slice A' (tallyR l).length c', .bool (goodPhs l)]) ∧ OwnS w' w.heap.size 3 1 A' (tallyR l).length (encIs (tallyR l)) ∧ Below w.heap.size w w' := by
  have hl := h.slc.big
  have hrd := h.ph
  have hf : Hid (∀ i (hi : i < l.length), IntsR w w.heap.size l[i].A l[i].f) := fun i hi => h.f hi
  cases hg : goodPhs l
  · have HG := Lib.hid hg; clear hg hrd
    have HF : Hid (tallyR l = []) := by unfold tallyR; rw [HG.out]; rfl
    go_enter Try.func26, Try.ntmps26
    go_wp2_with (go_at_call 46; refine (arePhrases_any A c l _ h).mono ?_; rw [HG.out]; rintro e w1 ⟨rfl, hb1⟩)
    go_ret2
    rw [HF.out]
    exact ⟨_, _, rfl, ⟨rfl, by simp, .inl ⟨rfl, rfl⟩⟩, hb1⟩
  · have h10 := good_len hg
    have HA : Hid (∀ i (hi : i < l.length), l[i].ok = true) := fun i hi => good_at hg hi
    have HF : Hid (tallyFrom (l.drop 0) (List.replicate 9 0) = tallyR l) := by unfold tallyR; rw [hg]; rfl
    have hft : Hid (∀ k, fsum (l.take k) ≤ 1048576) := fun k => by have := fsum_take_le l k; unfold need at hn; omega
    have HG := Lib.hid hg; clear hg
    have hmk : ∀ W : World, (Instr.makeSlice 22 (.int .i64 9) (.int .i64 9)).run Try.prog W = .ok (.slice (some ⟨W.heap.size, 0, none⟩) 9 9) (W.alloc (.cells #[.int .i64 0, .int .i64 0, .int .i64 0, .int .i64 0, .int .i64 0, .int .i64 0, .int .i64 0, .int .i64 0, .int .i64 0] 3)) := fun _ => by kernel_rfl
    go_enter Try.func26, Try.ntmps26
    go_wp2_with (go_at_call 46; refine (arePhrases_any A c l _ h).mono ?_; rw [HG.out]; rintro e w1 ⟨rfl, hb1⟩)
    have hbW := hb1.alloc hb1.size (.cells #[.int .i64 0, .int .i64 0, .int .i64 0, .int .i64 0, .int .i64 0, .int .i64 0, .int .i64 0, .int .i64 0, .int .i64 0] 3)
    have hlW := Lies.new w1 3 #[.int .i64 0, .int .i64 0, .int .i64 0, .int .i64 0, .int .i64 0, .int .i64 0, .int .i64 0, .int .i64 0, .int .i64 0]
    have hgW := hb1.size
    generalize w1.alloc (.cells #[.int .i64 0, .int .i64 0, .int .i64 0, .int .i64 0, .int .i64 0, .int .i64 0, .int .i64 0, .int .i64 0, .int .i64 0] 3) = W at hbW hlW ⊢
    generalize w1.heap.size = g at hlW hgW ⊢
    go_loopw [15] (fun i wr => ∃ (k s : Nat) (acc : List Int), k ≤ l.length ∧ i = .int .i64 k ∧ s ≤ 1048576 ∧ Hid (s = fsum (l.take k)) ∧ Hid (Nine acc s) ∧ Below w.heap.size w wr ∧ Hid (Lies wr g 3 (encIs acc)) ∧ Hid (tallyFrom (l.drop k) acc = tallyR l)) (fun i _ => l.length - (intOf i).toNat)
    case atStart => exact ⟨0, 0, List.replicate 9 0, Nat.zero_le _, rfl, by omega, rfl, nine_zero, hbW, hlW, HF⟩
    case round =>
      clear hb1 hbW hlW
      obtain ⟨k, s, acc, hk, rfl, hs, HS, HN, hbr, HL, HR⟩ := hrel
      by_cases hlt : k < l.length
      · obtain ⟨b, off, rfl, hb, hcell⟩ := hrd (by omega)
        obtain ⟨c0, c1, c2, c3⟩ := hcell k hlt
        have hx := hf.out k hlt
        obtain ⟨_, ⟨xc1, xc2⟩, hrise, _⟩ := Ph.bounds (HA.out k hlt)
        have HT : Hid (tallyFrom (l.drop k) acc = tallyFrom (l.drop (k + 1)) (tallyX l[k].c l[k].f acc)) := tally_step hlt _
        have HS1 : Hid (s + l[k].f.length = fsum (l.take (k + 1))) := fsum_take_succ hlt HS.out
        have hs1 : s + l[k].f.length ≤ 1048576 := by have := hft.out (k + 1); rw [← HS1.out] at this; exact this
        obtain ⟨x, hxe⟩ : ∃ x, x = l[k] := ⟨_, rfl⟩
        rw [← hxe] at c0 c1 c2 c3 xc1 xc2 hrise HT HS1 hs1 hx
        clear hxe hcell hrd
        have hrx := hx.ints
        have hxl := hx.big
        have HRI := Lib.hid hrise; clear hrise
        obtain ⟨q, rfl⟩ : ∃ q : Since w.heap.size w, wr = q.val := ⟨⟨wr, hbr⟩, rfl⟩
        go_wp2
        have hbV := q.below.alloc q.size (.cells #[.int .i64 x.s, .int .i64 x.c, .slice x.A x.f.length x.cap, .int .i64 x.p] 27)
        have hlV := Lies.new q.val 27 #[.int .i64 x.s, .int .i64 x.c, .slice x.A x.f.length x.cap, .int .i64 x.p]
        have hlG := HL.out.alloc (.cells #[.int .i64 x.s, .int .i64 x.c, .slice x.A x.f.length x.cap, .int .i64 x.p] 27)
        have hgl := HL.out.lt
        generalize q.val.alloc (.cells #[.int .i64 x.s, .int .i64 x.c, .slice x.A x.f.length x.cap, .int .i64 x.p] 27) = V at hbV hlV hlG ⊢
        generalize q.val.heap.size = gx at hlV hgl ⊢
        clear c0 c1 c2 c3 HL hbr
        go_loopw [8, 22] (fun _ jj wr => ∃ (j t : Nat) (acc' : List Int), j ≤ x.f.length ∧ jj = .int .i64 j ∧ t = s + j ∧ Hid (Nine acc' t) ∧ Below w.heap.size w wr ∧ Hid (Lies wr gx 27 x.enc) ∧ Hid (Lies wr g 3 (encIs acc')) ∧ Hid (tallyX x.c (x.f.drop j) acc' = tallyX x.c x.f acc)) (fun _ jj _ => x.f.length - (intOf jj).toNat)
        case atStart => exact ⟨0, s, acc, Nat.zero_le _, rfl, rfl, HN, hbV, hlV, hlG, rfl⟩
        case round =>
          clear hbV hlV hlG HN
          obtain ⟨j, t, acc', hj, rfl, ht, HN, hbr, HV, HL, HX⟩ := hrel
          by_cases hlj : j < x.f.length
          · obtain ⟨b', off', hA', hb', hcell'⟩ := hrx (by omega)
            obtain ⟨p, rfl⟩ : ∃ p : Since w.heap.size w, wr = p.val := ⟨⟨wr, hbr⟩, rfl⟩
            have d0 := hcell' j hlj
            have hfb := rises_at HRI.out hlj
            have HXS : Hid (tallyX x.c (x.f.drop j) acc' = tallyX x.c (x.f.drop (j + 1)) (bump acc' x.f[j] x.c)) := tallyX_step hlj _
            obtain ⟨n, hne⟩ : ∃ n : Nat, x.f[j] = (n : Int) + 1 := ⟨(x.f[j] - 1).toNat, by omega⟩
            rw [hne] at d0 hfb HXS
            have hn9 : n < 9 := by omega
            have HN1 : Hid (Nine (bump acc' ((n : Int) + 1) x.c) (t + 1)) := HN.out.bump hn9 xc1 xc2
            have HB1 : Hid (encIs (bump acc' ((n : Int) + 1) x.c) = (encIs acc').set n (.int .i64 (acc'[n]'(by rw [HN.out.len]; exact hn9) + x.c))) := bump_eq HN.out hn9 x.c
            have e0 : p.val.cell? ⟨g, n, none⟩ = some (.int .i64 (acc'[n]'(by rw [HN.out.len]; exact hn9))) := by
              rw [HL.out.cell]; unfold encIs; rw [List.getElem?_map, List.getElem?_eq_getElem (by rw [HN.out.len]; exact hn9)]; rfl
            have hv := HN.out.bd n (by rw [HN.out.len]; exact hn9)
            obtain ⟨v, hve⟩ : ∃ v, v = acc'[n]'(by rw [HN.out.len]; exact hn9) := ⟨_, rfl⟩
            rw [← hve] at e0 hv HB1
            obtain ⟨hv1, hv2⟩ := hv
            clear hve hne hcell' hfb hrx
            have f0 : p.val.frozen? ⟨g, n, none⟩ = false := HL.out.frozen n
            have e1 := HV.out.cell 1
            simp only [Ph.enc, List.getElem?_cons_zero, List.getElem?_cons_succ] at e1
            have HT2 := Lib.hid ht
            have hts : t ≤ 1048576 := by omega
            clear ht
            rw [hA']
            go_wp2
            go_region
            go_wp2
            go_roundw
            case rel =>
              refine ⟨j + 1, t + 1, _, by omega, by go_num, by have := HT2.out; omega, HN1, by go_grown, ?_, ?_, Lib.hid (by have h1 := HX.out; rw [HXS.out] at h1; exact h1)⟩
              · exact (HV.out.other (p := ⟨g, n, none⟩) (by simp only; omega) _)
              · have h1 := HL.out.set n (.int .i64 (v + x.c))
                rw [← HB1.out] at h1; exact h1
            case measure => simp [intOf]; omega
          · have HE : Hid (acc' = tallyX x.c x.f acc) := by
              have h1 := HX.out; rw [List.drop_eq_nil_of_le (by omega)] at h1; exact h1
            have hjl : j = x.f.length := by omega
            have HT2 : Hid (t = s + x.f.length) := by rw [ht, hjl]; rfl
            clear hrx ht hjl
            go_wp2
            go_roundw
            case rel => exact ⟨k + 1, s + x.f.length, acc', by omega, by go_num, hs1, HS1, by rw [← HT2.out]; exact HN, hbr, HL, Lib.hid (by have h1 := HR.out; rw [HT.out, ← HE.out] at h1; exact h1)⟩
            case measure => simp [intOf]; omega
      · have HE : Hid (acc = tallyR l) := by
          have h1 := HR.out; rw [List.drop_eq_nil_of_le (by omega)] at h1; exact h1
        clear hrd
        go_wp2
        go_ret2
        rw [← HE.out, HN.out.len]
        exact ⟨_, _, rfl, ⟨by simp [HN.out.len], by omega, .inr ⟨_, [], rfl, hgW, by simpa using HL.out⟩⟩, hbr⟩
set_option maxHeartbeats 2000000 in
theorem specTally_any (A : Option Addr) (c : Nat) (l : List Ph) (w : World) (h : PhsR w w.heap.size A l) (hn : need l ≤ 1048576) :
    Calls Try.prog 25 #[.slice A l.length c] w fun e w' => ∃ A' c', e = .returned (.tuple #[.slice A' (tallyR l).length c', .bool (goodPhs l)]) ∧ OwnS w' w.heap.size 3 1 A' (tallyR l).length (encIs (tallyR l)) ∧ Below w.heap.size w w' := by
  have hl := h.slc.big
  have hrd := h.ph
  have hf : Hid (∀ i (hi : i < l.length), IntsR w w.heap.size l[i].A l[i].f) := fun i hi => h.f hi
  cases hg : goodPhs l
  · have HG := Lib.hid hg; clear hg hrd
    have HF : Hid (tallyR l = []) := by unfold tallyR; rw [HG.out]; rfl
    go_enter Try.func25, Try.ntmps25
    go_wp2_with (go_at_call 45; refine (l30Good_any A c l _ h).mono ?_; rw [HG.out]; rintro e w1 ⟨rfl, hb1⟩)
    go_ret2
    rw [HF.out]
    exact ⟨_, _, rfl, ⟨rfl, by simp, .inr ⟨_, [], rfl, hb1.size, by simpa using Lies.new w1 3 #[]⟩⟩, hb1.alloc hb1.size _⟩
  · have h10 := good_len hg
    have HA : Hid (∀ i (hi : i < l.length), l[i].ok = true) := fun i hi => good_at hg hi
    have HF : Hid (tallyFrom (l.drop 0) (List.replicate 9 0) = tallyR l) := by unfold tallyR; rw [hg]; rfl
    have hft : Hid (∀ k, fsum (l.take k) ≤ 1048576) := fun k => by have := fsum_take_le l k; unfold need at hn; omega
    have HG := Lib.hid hg; clear hg
    have hmk : ∀ W : World, (Instr.makeSlice 22 (.int .i64 9) (.int .i64 9)).run Try.prog W = .ok (.slice (some ⟨W.heap.size, 0, none⟩) 9 9) (W.alloc (.cells #[.int .i64 0, .int .i64 0, .int .i64 0, .int .i64 0, .int .i64 0, .int .i64 0, .int .i64 0, .int .i64 0, .int .i64 0] 3)) := fun _ => by kernel_rfl
    go_enter Try.func25, Try.ntmps25
    go_wp2_with (go_at_call 45; refine (l30Good_any A c l _ h).mono ?_; rw [HG.out]; rintro e w1 ⟨rfl, hb1⟩)
    have hbW := hb1.alloc hb1.size (.cells #[.int .i64 0, .int .i64 0, .int .i64 0, .int .i64 0, .int .i64 0, .int .i64 0, .int .i64 0, .int .i64 0, .int .i64 0] 3)
    have hlW := Lies.new w1 3 #[.int .i64 0, .int .i64 0, .int .i64 0, .int .i64 0, .int .i64 0, .int .i64 0, .int .i64 0, .int .i64 0, .int .i64 0]
    have hgW := hb1.size
    generalize w1.alloc (.cells #[.int .i64 0, .int .i64 0, .int .i64 0, .int .i64 0, .int .i64 0, .int .i64 0, .int .i64 0, .int .i64 0, .int .i64 0] 3) = W at hbW hlW ⊢
    generalize w1.heap.size = g at hlW hgW ⊢
    go_loopw [5] (fun i wr => ∃ (k s : Nat) (acc : List Int), k ≤ l.length ∧ i = .int .i64 k ∧ s ≤ 1048576 ∧ Hid (s = fsum (l.take k)) ∧ Hid (Nine acc s) ∧ Below w.heap.size w wr ∧ Hid (Lies wr g 3 (encIs acc)) ∧ Hid (tallyFrom (l.drop k) acc = tallyR l)) (fun i _ => l.length - (intOf i).toNat)
    case atStart => exact ⟨0, 0, List.replicate 9 0, Nat.zero_le _, rfl, by omega, rfl, nine_zero, hbW, hlW, HF⟩
    case round =>
      clear hb1 hbW hlW
      obtain ⟨k, s, acc, hk, rfl, hs, HS, HN, hbr, HL, HR⟩ := hrel
      by_cases hlt : k < l.length
      · obtain ⟨b, off, rfl, hb, hcell⟩ := hrd (by omega)
        obtain ⟨c0, c1, c2, c3⟩ := hcell k hlt
        have hx := hf.out k hlt
        obtain ⟨_, ⟨xc1, xc2⟩, hrise, _⟩ := Ph.bounds (HA.out k hlt)
        have HT : Hid (tallyFrom (l.drop k) acc = tallyFrom (l.drop (k + 1)) (tallyX l[k].c l[k].f acc)) := tally_step hlt _
        have HS1 : Hid (s + l[k].f.length = fsum (l.take (k + 1))) := fsum_take_succ hlt HS.out
        have hs1 : s + l[k].f.length ≤ 1048576 := by have := hft.out (k + 1); rw [← HS1.out] at this; exact this
        obtain ⟨x, hxe⟩ : ∃ x, x = l[k] := ⟨_, rfl⟩
        rw [← hxe] at c0 c1 c2 c3 xc1 xc2 hrise HT HS1 hs1 hx
        clear hxe hcell hrd
        have hrx := hx.ints
        have hxl := hx.big
        have HRI := Lib.hid hrise; clear hrise
        obtain ⟨q, rfl⟩ : ∃ q : Since w.heap.size w, wr = q.val := ⟨⟨wr, hbr⟩, rfl⟩
        go_wp2
        have hbV := q.below
        have hlG := HL
        clear HL hbr
        go_loopw [6, 7] (fun jj _ wr => ∃ (j t : Nat) (acc' : List Int), j ≤ x.f.length ∧ jj = .int .i64 j ∧ t = s + j ∧ Hid (Nine acc' t) ∧ Below w.heap.size w wr ∧ Hid (Lies wr g 3 (encIs acc')) ∧ Hid (tallyX x.c (x.f.drop j) acc' = tallyX x.c x.f acc)) (fun jj _ _ => x.f.length - (intOf jj).toNat)
        case atStart => exact ⟨0, s, acc, Nat.zero_le _, rfl, rfl, HN, hbV, hlG, rfl⟩
        case round =>
          clear hbV hlG HN
          obtain ⟨j, t, acc', hj, rfl, ht, HN, hbr, HL, HX⟩ := hrel
          obtain ⟨p, rfl⟩ : ∃ p : Since w.heap.size w, wr = p.val := ⟨⟨wr, hbr⟩, rfl⟩
          by_cases hlj : j < x.f.length
          · obtain ⟨b', off', hA', hb', hcell'⟩ := hrx (by omega)
            have d0 := hcell' j hlj
            have hfb := rises_at HRI.out hlj
            have HXS : Hid (tallyX x.c (x.f.drop j) acc' = tallyX x.c (x.f.drop (j + 1)) (bump acc' x.f[j] x.c)) := tallyX_step hlj _
            obtain ⟨n, hne⟩ : ∃ n : Nat, x.f[j] = (n : Int) + 1 := ⟨(x.f[j] - 1).toNat, by omega⟩
            rw [hne] at d0 hfb HXS
            have hn9 : n < 9 := by omega
            have HN1 : Hid (Nine (bump acc' ((n : Int) + 1) x.c) (t + 1)) := HN.out.bump hn9 xc1 xc2
            have HB1 : Hid (encIs (bump acc' ((n : Int) + 1) x.c) = (encIs acc').set n (.int .i64 (acc'[n]'(by rw [HN.out.len]; exact hn9) + x.c))) := bump_eq HN.out hn9 x.c
            have e0 : p.val.cell? ⟨g, n, none⟩ = some (.int .i64 (acc'[n]'(by rw [HN.out.len]; exact hn9))) := by
              rw [HL.out.cell]; unfold encIs; rw [List.getElem?_map, List.getElem?_eq_getElem (by rw [HN.out.len]; exact hn9)]; rfl
            have hv := HN.out.bd n (by rw [HN.out.len]; exact hn9)
            obtain ⟨v, hve⟩ : ∃ v, v = acc'[n]'(by rw [HN.out.len]; exact hn9) := ⟨_, rfl⟩
            rw [← hve] at e0 hv HB1
            obtain ⟨hv1, hv2⟩ := hv
            clear hve hne hcell' hfb hrx
            have f0 : p.val.frozen? ⟨g, n, none⟩ = false := HL.out.frozen n
            have HT2 := Lib.hid ht
            have hts : t ≤ 1048576 := by omega
            clear ht
            simp only [hA'] at c2
            go_wp2
            go_region
            go_wp2
            go_roundw
            case rel =>
              refine ⟨j + 1, t + 1, _, by omega, by go_num, by have := HT2.out; omega, HN1, by go_grown, ?_, Lib.hid (by have h1 := HX.out; rw [HXS.out] at h1; exact h1)⟩
              · have h1 := HL.out.set n (.int .i64 (v + x.c))
                rw [← HB1.out] at h1; exact h1
            case measure => simp [intOf]; omega
          · have HE : Hid (acc' = tallyX x.c x.f acc) := by
              have h1 := HX.out; rw [List.drop_eq_nil_of_le (by omega)] at h1; exact h1
            have hjl : j = x.f.length := by omega
            have HT2 : Hid (t = s + x.f.length) := by rw [ht, hjl]; rfl
            clear hrx ht hjl
            go_wp2
            go_roundw
            case rel => exact ⟨k + 1, s + x.f.length, acc', by omega, by go_num, hs1, HS1, by rw [← HT2.out]; exact HN, hbr, HL, Lib.hid (by have h1 := HR.out; rw [HT.out, ← HE.out] at h1; exact h1)⟩
            case measure => simp [intOf]; omega
      · have HE : Hid (acc = tallyR l) := by
          have h1 := HR.out; rw [List.drop_eq_nil_of_le (by omega)] at h1; exact h1
        clear hrd
        go_wp2
        go_ret2
        rw [← HE.out, HN.out.len]
        exact ⟨_, _, rfl, ⟨by simp [HN.out.len], by omega, .inr ⟨_, [], rfl, hgW, by simpa using HL.out⟩⟩, hbr⟩
end Go.Proofs.Ytjdedcalbcnkmaa
