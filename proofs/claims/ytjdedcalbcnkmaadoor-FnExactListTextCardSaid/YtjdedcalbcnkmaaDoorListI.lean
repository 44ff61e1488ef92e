/- The text of a list of phrases, in the program. -/
import Derived.Test.YtjdedcalbcnkmaaDoorList
namespace Go.Proofs.YtjdedcalbcnkmaaDoor
open Go.RowKit

set_option maxRecDepth 100000 in
set_option maxHeartbeats 2000000 in
theorem implListText_any (A : Option Addr) (c : Nat) (l : List Ph) (w : World) (h : PhsR w w.heap.size A l) (ht : Tab w) :
    Calls Tryd.prog 18 #[.slice A l.length c] w fun e w' => e = .returned (.tuple #[.string (okT (goodPhs l) (listT l)), .bool (goodPhs l)]) ∧ Below w.heap.size w w' := by
  have hl := h.slc.big
  have hrd := h.ph
  have hf : Hid (∀ i (hi : i < l.length), IntsR w w.heap.size l[i].A l[i].f) := fun i hi => h.f hi
  cases hg : goodPhs l
  · have HG := Lib.hid hg; clear hg hrd
    go_enter Tryd.func18, Tryd.ntmps18
    go_wp2_with (go_at_call 39; refine (arePhrases_any A c l _ h).mono ?_; rw [HG.out]; rintro e w1 ⟨rfl, hb1⟩)
    go_ret2
    exact ⟨rfl, hb1⟩
  · skip
    have h10 := good_len hg
    have HA : Hid (∀ i (hi : i < l.length), l[i].ok = true) := fun i hi => good_at hg hi
    have hjl : (Lib.join (l.map shortT) (bl ⟨#[32]⟩)).length ≤ 1000000000 := by
      have h1 := join_le (bl ⟨#[32]⟩) 1500 (l.map shortT) fun y hy => by
        obtain ⟨x, hx, rfl⟩ := List.mem_map.1 hy
        obtain ⟨i, hi, rfl⟩ := List.getElem_of_mem hx
        exact short_len (HA.out i hi)
      rw [bl_size, List.length_map] at h1
      have h2 : l.length * ((⟨#[32]⟩ : ByteArray).size + 1500) ≤ 10 * 1501 := Nat.mul_le_mul h10 (by decide)
      omega
    have HG := Lib.hid hg; clear hg
    go_enter Tryd.func18, Tryd.ntmps18
    go_wp2_with (go_at_call 39; refine (arePhrases_any A c l _ h).mono ?_; rw [HG.out]; rintro e w1 ⟨rfl, hb1⟩)
    go_loopw [4, 6, 12] (fun out bx i wr => ∃ (k : Nat), k ≤ l.length ∧ i = .int .i64 k ∧ Hid (wr.ownsRow w.heap.size 9 1 out k (strs ((l.take k).map shortT))) ∧ (Below w.heap.size w wr)) (fun _ _ i _ => l.length - (intOf i).toNat)
    case atStart => exact ⟨0, Nat.zero_le _, rfl, (World.ownsRow_nil _ _ _ _), hb1⟩
    case round =>
      clear hb1
      obtain ⟨k, hk, rfl, HO, hbr⟩ := hrel
      obtain ⟨q, rfl⟩ : ∃ q : Since w.heap.size w, wr = q.val := ⟨⟨wr, hbr⟩, rfl⟩
      by_cases hlt : k < l.length
      · obtain ⟨b, off, rfl, hb, hcell⟩ := hrd (by omega)
        obtain ⟨c0, c1, c2, c3⟩ := hcell k hlt
        have hx : ∀ p : Since w.heap.size w, IntsR p.val p.val.heap.size l[k].A l[k].f := fun p => SlcR.up (hf.out k hlt) p.below (Nat.le_refl _)
        have HOK := Lib.hid (HA.out k hlt)
        have HTK := Lib.hid (take_push hlt)
        obtain ⟨x, hxe⟩ : ∃ x, x = l[k] := ⟨_, rfl⟩
        rw [← hxe] at c0 c1 c2 c3 hx HOK HTK
        clear hxe hcell hrd
        obtain ⟨sv, hsv⟩ : ∃ s : ByteArray, s = ⟨(shortT x).toArray⟩ := ⟨_, rfl⟩
        have hbV := q.below.alloc q.size (.cells #[.int .i64 x.s, .int .i64 x.c, .slice x.A x.f.length x.cap, .int .i64 x.p] 28)
        have HOW := Lib.hid (HO.out.alloc (.cells #[.int .i64 x.s, .int .i64 x.c, .slice x.A x.f.length x.cap, .int .i64 x.p] 28))
        have SH : ∀ p : Since w.heap.size w, Calls Tryd.prog 33 #[x.val] p.val fun e w' => e = .returned (.string sv) ∧ Below p.val.heap.size p.val w' := by
          intro p; rw [hsv]; exact shortText_any x p.val (hx p) HOK.out (ht.at p)
        have HSC := Lib.hid (SH ⟨_, hbV⟩)
        have HSV := Lib.hid hsv; clear hsv SH HO
        go_wp2_with (first
          | (go_at_call 33; refine HSC.out.mono ?_; rintro e w4 ⟨rfl, hb4⟩; have hb5 : Below w.heap.size w w4 := hbV.trans (hb4.mono hbV.size); have HO4 := Lib.hid (ownsRow_then HOW.out hb4); have hs4 := hb5.size)
          | (at_builtin; refine wpList_push (w0 := w4) rfl _ _ 52 rfl 9 (.string ⟨#[]⟩) 1 16 Tryd.underlying52 infoString rfl (by decide) (by omega) w.heap.size _ _ _ rfl HO4 #[.string sv] 1 _ rfl (by first | rfl | exact Array.size_push _) rfl (by simp [Value.oneCell']) (by omega) hs4 rfl rfl rfl rfl ?_; intro v' w6 HO6 hg6 hb6))
        obtain ⟨A3, c3', rfl⟩ := ownsRow_slice HO6.out
        go_wp2
        go_roundw
        case rel => exact ⟨k + 1, by omega, by go_num, by rw [HTK.out, List.map_append, List.map_cons, List.map_nil, strs_push, ← HSV.out]; exact HO6, hb5.trans hb6⟩
        case measure => simp [intOf]; omega
      · have ek : k = l.length := by omega
        subst ek
        rw [List.take_length] at HO
        obtain ⟨A3, c3, rfl⟩ := ownsRow_slice HO.out
        clear hrd
        have HJ := Lib.hid (join_any (l.map shortT) A3 c3 w.heap.size ⟨#[32]⟩)
        rw [List.length_map] at HJ
        go_wp2_with (go_at_call 40; refine (HJ.out _ HO.out (by omega) hjl).mono ?_; rintro e w7 ⟨rfl, hb7⟩)
        go_ret2
        exact ⟨rfl, hbr.trans (hb7.mono hbr.size)⟩
end Go.Proofs.YtjdedcalbcnkmaaDoor
