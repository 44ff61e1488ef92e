/- Decoding a record, in the program. -/
import Derived.Test.YtojceibamgodbaaDoorCut
namespace Go.Proofs.YtojceibamgodbaaDoor
open Go.RowKit

theorem pre_drop {p t : List UInt8} (h : p <+: t) : t = p ++ t.drop p.length := by
  obtain ⟨u, rfl⟩ := h; simp

set_option maxRecDepth 100000 in
set_option maxHeartbeats 4000000 in
theorem decodeRecord_any (k : Nat) (s : ByteArray) (w : World) (hk : k ≤ 1000) (hs : s.size ≤ 3000000) (ht : Tab w) :
    Calls Tryd.prog 82 #[.int .i64 k, .string s] w (GivesDec k s w) := by
  have b1 := (Below.refl w.heap.size w).alloc (Nat.le_refl _) (.cells #[.string ⟨#[]⟩, .string ⟨#[]⟩] 45)
  have L1 := Lies.new w 45 #[.string ⟨#[]⟩, .string ⟨#[]⟩]
  have ht1 := ht.then b1
  have hk9 : k ≤ 9223372036854775807 := by omega
  obtain ⟨t, htt⟩ : ∃ t : ByteArray, t = ⟨(Lib.itoa (k : Int)).toArray⟩ := ⟨_, rfl⟩
  have hts : t.size ≤ 100 := by rw [htt]; exact itoa_len (by omega) (by omega)
  have HN : Hid (∀ W, Tab W → Calls Tryd.prog 76 #[.int .i64 k] W fun e w' => e = .returned (.string t) ∧ Below W.heap.size W w') := fun W hW => by rw [htt]; exact itoa_any (k : Int) W (by omega) (by omega) hW
  have HT : Hid (bl t = Lib.itoa (k : Int)) := by rw [htt, Hid, bl_mk]
  have HPre : Hid (bl (t ++ ⟨#[32]⟩) = Lib.itoa (k : Int) ++ [32]) := by rw [Hid, bl_app, HT.out]; rfl
  clear htt
  have z1 : (⟨#[32]⟩ : ByteArray).size = 1 := rfl
  have HV := Lib.hid (fun W hW => verify_any s W (by omega) hW)
  cases hv : verF (bl s) with
  | none =>
    rw [hv] at HV
    have HD : Hid (decF k (bl s) = none) := dec_no_ver hk9 fun u hu => by rw [verF_some hu] at hv; cases hv
    have HCP : Hid (∀ W, Calls Tryd.prog 105 #[.string ⟨#[]⟩, .string (t ++ ⟨#[32]⟩)] W fun e w' => e = .returned (.tuple #[.string ⟨#[]⟩, .bool false]) ∧ w' = W) := fun W => by
      have h1 := Tryd.strings_CutPrefix ⟨#[]⟩ (t ++ ⟨#[32]⟩) W
      have h2 : Lib.hasPrefix (⟨#[]⟩ : ByteArray).data.toList (t ++ ⟨#[32]⟩ : ByteArray).data.toList = false := by
        unfold Lib.hasPrefix
        have : (t ++ ⟨#[32]⟩ : ByteArray).data.toList = Lib.itoa (k : Int) ++ [32] := HPre.out
        rw [this]
        cases Lib.itoa (k : Int) <;> rfl
      unfold Lib.trimPrefix at h1
      rw [h2] at h1
      exact h1
    have HCt := Lib.hid (fun W => cut_any ⟨#[]⟩ 64 W (by decide))
    have e1 : cutL ⟨#[]⟩ 64 = ⟨#[]⟩ := rfl
    have e2 : cutR ⟨#[]⟩ 64 = ⟨#[]⟩ := rfl
    have e3 : hasB (bl ⟨#[]⟩) 64 = false := rfl
    rw [e1, e2, e3] at HCt
    clear e1 e2 e3 hv
    go_enter Tryd.func82, Tryd.ntmps82
    go_wp2_with fail
    generalize w.alloc (.cells #[.string ⟨#[]⟩, .string ⟨#[]⟩] 45) = W at b1 L1 ht1 ⊢
    generalize hg : w.heap.size = g at L1 ⊢
    refine (HV.out _ ht1).mono ?_
    rintro e w2 ⟨rfl, hb2⟩
    have ht2 := ht1.then hb2
    go_wp2_with (first | (go_at_call 76; refine (HN.out _ ht2).mono ?_; rintro e w3 ⟨rfl, hb3⟩) | (go_at_call 105; refine (HCP.out _).mono ?_; rintro e w4 ⟨rfl, rfl⟩))
    refine (HCt.out _).mono ?_
    rintro e w5 ⟨rfl, hb5⟩
    have hb15 := bthen (bthen hb2 hb3) hb5
    have L5 := L1.below hb15 L1.lt
    have c0 := L5.cell 0
    have c1 := L5.cell 1
    have f0 := L5.frozen 0
    have f1 := L5.frozen 1
    have hgl := L5.lt
    simp only [List.getElem?_cons_zero, List.getElem?_cons_succ] at c0 c1
    clear L1 L5
    go_wp2_with fail
    refine bodyPost_ret (v := .tuple #[.agg #[.string ⟨#[]⟩, .string ⟨#[]⟩], .bool false]) (by simp [results, Tryd.results82, go_sem, *]) rfl ⟨⟨#[]⟩, ⟨#[]⟩, false, rfl, .inr ⟨rfl, HD.out⟩, ?_⟩
    rw [← hg] at *
    exact (bthen b1 hb15).trans (by repeat (first | exact Below.refl _ _ | refine Below.alloc ?_ (by simp; have := b1.size; have := hb15.size; omega) _ | refine Below.setCell ?_ (by simp) _))
  | some u0 =>
    obtain ⟨u, rfl⟩ : ∃ u : ByteArray, u0 = bl u := ⟨⟨u0.toArray⟩, (bl_mk u0).symm⟩
    have hver := verF_ver hv
    have hul : u.size ≤ 4000 := hver.2.2.1
    rw [hv] at HV
    have HO : Hid (optT (some (bl u)) = u) := (bl_ext rfl).symm
    rw [HO.out] at HV
    have hcp : ∀ W, Calls Tryd.prog 105 #[.string u, .string (t ++ ⟨#[32]⟩)] W fun e w' => e = .returned (.tuple #[.string ⟨(Lib.trimPrefix (bl u) (Lib.itoa (k : Int) ++ [32])).toArray⟩, .bool (Lib.hasPrefix (bl u) (Lib.itoa (k : Int) ++ [32]))]) ∧ w' = W := fun W => by
      rw [← HPre.out]; exact Tryd.strings_CutPrefix u (t ++ ⟨#[32]⟩) W
    by_cases hp : (Lib.itoa (k : Int) ++ [32]) <+: bl u
    · have hpt : Lib.hasPrefix (bl u) (Lib.itoa (k : Int) ++ [32]) = true := List.isPrefixOf_iff_prefix.2 hp
      have hsplit := pre_drop hp
      obtain ⟨u', hu'⟩ : ∃ u' : ByteArray, u' = ⟨((bl u).drop (Lib.itoa (k : Int) ++ [32]).length).toArray⟩ := ⟨_, rfl⟩
      have hbu : bl u' = (bl u).drop (Lib.itoa (k : Int) ++ [32]).length := by rw [hu', bl_mk]
      rw [← hbu] at hsplit
      have HCP : Hid (∀ W, Calls Tryd.prog 105 #[.string u, .string (t ++ ⟨#[32]⟩)] W fun e w' => e = .returned (.tuple #[.string u', .bool true]) ∧ w' = W) := fun W => by
        have := hcp W
        unfold Lib.trimPrefix at this
        rw [hpt, if_pos rfl, ← hu'] at this; exact this
      have hu4 : u'.size ≤ 4000 := by rw [← bl_size, hbu, List.length_drop, bl_size]; omega
      have HCt := Lib.hid (fun W => cut_any u' 64 W (by omega))
      have hcl : (cutL u' 64).size ≤ 4000 := by unfold cutL; rw [← bl_size, bl_mk]; have := bef_len 64 (bl u'); rw [bl_size] at this; omega
      have hcr : (cutR u' 64).size ≤ 4000 := by unfold cutR; rw [← bl_size, bl_mk, List.length_drop, bl_size]; omega
      cases hat : hasB (bl u') 64
      · have HD : Hid (decF k (bl s) = none) := dec_no_at hk9 hver hsplit (hasB_false.1 hat)
        rw [hat] at HCt
        clear hv hver hcp hp hpt hsplit hu' hbu hat
        go_enter Tryd.func82, Tryd.ntmps82
        go_wp2_with fail
        generalize w.alloc (.cells #[.string ⟨#[]⟩, .string ⟨#[]⟩] 45) = W at b1 L1 ht1 ⊢
        generalize hg : w.heap.size = g at L1 ⊢
        refine (HV.out _ ht1).mono ?_
        rintro e w2 ⟨rfl, hb2⟩
        have ht2 := ht1.then hb2
        go_wp2_with (first | (go_at_call 76; refine (HN.out _ ht2).mono ?_; rintro e w3 ⟨rfl, hb3⟩) | (go_at_call 105; refine (HCP.out _).mono ?_; rintro e w4 ⟨rfl, rfl⟩))
        refine (HCt.out _).mono ?_
        rintro e w5 ⟨rfl, hb5⟩
        have hb15 := bthen (bthen hb2 hb3) hb5
        have L5 := L1.below hb15 L1.lt
        have c0 := L5.cell 0
        have c1 := L5.cell 1
        have f0 := L5.frozen 0
        have f1 := L5.frozen 1
        have hgl := L5.lt
        simp only [List.getElem?_cons_zero, List.getElem?_cons_succ] at c0 c1
        clear L1 L5
        go_wp2_with fail
        refine bodyPost_ret (v := .tuple #[.agg #[.string ⟨#[]⟩, .string ⟨#[]⟩], .bool false]) (by simp [results, Tryd.results82, go_sem, *]) rfl ⟨⟨#[]⟩, ⟨#[]⟩, false, rfl, .inr ⟨rfl, HD.out⟩, ?_⟩
        rw [← hg] at *
        exact (bthen b1 hb15).trans (by repeat (first | exact Below.refl _ _ | refine Below.alloc ?_ (by simp; have := b1.size; have := hb15.size; omega) _ | refine Below.setCell ?_ (by simp) _))
      · have hdec := dec_iff_rec (c := bl (cutL u' 64)) (r := bl (cutR u' 64)) hk9 hver (by
          rw [hsplit]; congr 1
          unfold cutL cutR; rw [bl_mk, bl_mk]; exact parts_bef (hasB_true.1 hat)) (by unfold cutL; rw [bl_mk]; exact bef_not 64 _)
        rw [hat] at HCt
        cases hok : Rec.ok ⟨cutL u' 64, cutR u' 64⟩
        · have HD : Hid (decF k (bl s) = none) := by
            rw [Hid, hdec, if_neg (fun h => by rw [show Rec.ok ⟨cutL u' 64, cutR u' 64⟩ = recOk (bl (cutL u' 64)) (bl (cutR u' 64)) from rfl, h] at hok; cases hok)]
          have HOK := Lib.hid hok
          clear hv hver hcp hp hpt hsplit hu' hbu hat hdec hok
          go_enter Tryd.func82, Tryd.ntmps82
          go_wp2_with fail
          generalize w.alloc (.cells #[.string ⟨#[]⟩, .string ⟨#[]⟩] 45) = W at b1 L1 ht1 ⊢
          generalize hg : w.heap.size = g at L1 ⊢
          refine (HV.out _ ht1).mono ?_
          rintro e w2 ⟨rfl, hb2⟩
          have ht2 := ht1.then hb2
          go_wp2_with (first | (go_at_call 76; refine (HN.out _ ht2).mono ?_; rintro e w3 ⟨rfl, hb3⟩) | (go_at_call 105; refine (HCP.out _).mono ?_; rintro e w4 ⟨rfl, rfl⟩))
          refine (HCt.out _).mono ?_
          rintro e w5 ⟨rfl, hb5⟩
          have hb15 := bthen (bthen hb2 hb3) hb5
          have L5 := L1.below hb15 L1.lt
          go_wp2_with fail
          have L6 := L5.alloc (.cells #[.string (cutL u' 64), .string (cutR u' 64)] 45)
          have N6 := Lies.new w5 45 #[.string (cutL u' 64), .string (cutR u' 64)]
          have b6 := (Below.refl w5.heap.size w5).alloc (Nat.le_refl _) (.cells #[.string (cutL u' 64), .string (cutR u' 64)] 45)
          generalize w5.alloc (.cells #[.string (cutL u' 64), .string (cutR u' 64)] 45) = W6 at L6 N6 b6 ⊢
          generalize hg5 : w5.heap.size = g5 at N6 ⊢
          refine (isRecord_any ⟨cutL u' 64, cutR u' 64⟩ _ (by simp only; omega) (by simp only; omega)).mono ?_
          rw [HOK.out]
          rintro e w7 ⟨rfl, hb7⟩
          have L7 := L6.below hb7 L6.lt
          have N7 := N6.below hb7 N6.lt
          have c0 := L7.cell 0
          have c1 := L7.cell 1
          have f0 := L7.frozen 0
          have f1 := L7.frozen 1
          have d0 := N7.cell 0
          have d1 := N7.cell 1
          have hgl := L7.lt
          simp only [List.getElem?_cons_zero, List.getElem?_cons_succ] at c0 c1 d0 d1
          have hgB : w.heap.size ≤ g := by omega
          have hall : Below w.heap.size w w7 := bthen (bthen b1 hb15) (bthen (by rw [← hg5] at *; exact b6) hb7)
          clear L1 L5 L6 L7 N6 N7
          go_wp2_with fail
          refine bodyPost_ret (v := .tuple #[.agg #[.string ⟨#[]⟩, .string ⟨#[]⟩], .bool false]) (by simp [results, Tryd.results82, go_sem, *]) rfl ⟨⟨#[]⟩, ⟨#[]⟩, false, rfl, .inr ⟨rfl, HD.out⟩, ?_⟩
          exact hall.trans (by repeat (first | exact Below.refl _ _ | refine Below.setCell ?_ (by simp only; exact hgB) _))
        · have HD : Hid (decF k (bl s) = some (bl (cutL u' 64), bl (cutR u' 64))) := by
            rw [Hid, hdec, if_pos (by exact hok)]
          have HOK := Lib.hid hok
          clear hv hver hcp hp hpt hsplit hu' hbu hat hdec hok
          go_enter Tryd.func82, Tryd.ntmps82
          go_wp2_with fail
          generalize w.alloc (.cells #[.string ⟨#[]⟩, .string ⟨#[]⟩] 45) = W at b1 L1 ht1 ⊢
          generalize hg : w.heap.size = g at L1 ⊢
          refine (HV.out _ ht1).mono ?_
          rintro e w2 ⟨rfl, hb2⟩
          have ht2 := ht1.then hb2
          go_wp2_with (first | (go_at_call 76; refine (HN.out _ ht2).mono ?_; rintro e w3 ⟨rfl, hb3⟩) | (go_at_call 105; refine (HCP.out _).mono ?_; rintro e w4 ⟨rfl, rfl⟩))
          refine (HCt.out _).mono ?_
          rintro e w5 ⟨rfl, hb5⟩
          have hb15 := bthen (bthen hb2 hb3) hb5
          have L5 := L1.below hb15 L1.lt
          go_wp2_with fail
          have L6 := L5.alloc (.cells #[.string (cutL u' 64), .string (cutR u' 64)] 45)
          have N6 := Lies.new w5 45 #[.string (cutL u' 64), .string (cutR u' 64)]
          have b6 := (Below.refl w5.heap.size w5).alloc (Nat.le_refl _) (.cells #[.string (cutL u' 64), .string (cutR u' 64)] 45)
          generalize w5.alloc (.cells #[.string (cutL u' 64), .string (cutR u' 64)] 45) = W6 at L6 N6 b6 ⊢
          generalize hg5 : w5.heap.size = g5 at N6 ⊢
          refine (isRecord_any ⟨cutL u' 64, cutR u' 64⟩ _ (by simp only; omega) (by simp only; omega)).mono ?_
          rw [HOK.out]
          rintro e w7 ⟨rfl, hb7⟩
          have L7 := L6.below hb7 L6.lt
          have N7 := N6.below hb7 N6.lt
          have c0 := L7.cell 0
          have c1 := L7.cell 1
          have f0 := L7.frozen 0
          have f1 := L7.frozen 1
          have d0 := N7.cell 0
          have d1 := N7.cell 1
          have hgl := L7.lt
          simp only [List.getElem?_cons_zero, List.getElem?_cons_succ] at c0 c1 d0 d1
          have hgB : w.heap.size ≤ g := by omega
          have hall : Below w.heap.size w w7 := bthen (bthen b1 hb15) (bthen (by rw [← hg5] at *; exact b6) hb7)
          clear L1 L5 L6 L7 N6 N7
          go_wp2_with fail
          refine bodyPost_ret (v := .tuple #[.agg #[.string (cutL u' 64), .string (cutR u' 64)], .bool true]) (by simp [results, Tryd.results82, go_sem, *]) rfl ⟨cutL u' 64, cutR u' 64, true, rfl, .inl ⟨rfl, HD.out⟩, ?_⟩
          exact hall.trans (by repeat (first | exact Below.refl _ _ | refine Below.setCell ?_ (by simp only; exact hgB) _))
    · have hpf : Lib.hasPrefix (bl u) (Lib.itoa (k : Int) ++ [32]) = false := by
        rcases h : Lib.hasPrefix (bl u) (Lib.itoa (k : Int) ++ [32]) with _ | _
        · rfl
        · exact absurd (List.isPrefixOf_iff_prefix.1 h) hp
      have HD : Hid (decF k (bl s) = none) := dec_no_num hk9 hver hp
      have HCP : Hid (∀ W, Calls Tryd.prog 105 #[.string u, .string (t ++ ⟨#[32]⟩)] W fun e w' => e = .returned (.tuple #[.string u, .bool false]) ∧ w' = W) := fun W => by
        have := hcp W
        unfold Lib.trimPrefix at this
        rw [hpf] at this
        simp only [Bool.false_eq_true, if_false] at this
        rwa [show (⟨(bl u).toArray⟩ : ByteArray) = u from (bl_ext rfl).symm] at this
      have HCt := Lib.hid (fun W => cut_any u 64 W (by omega))
      generalize hasB (bl u) 64 = hb at HCt
      clear hv hver hcp hp hpf
      go_enter Tryd.func82, Tryd.ntmps82
      go_wp2_with fail
      generalize w.alloc (.cells #[.string ⟨#[]⟩, .string ⟨#[]⟩] 45) = W at b1 L1 ht1 ⊢
      generalize hg : w.heap.size = g at L1 ⊢
      refine (HV.out _ ht1).mono ?_
      rintro e w2 ⟨rfl, hb2⟩
      have ht2 := ht1.then hb2
      go_wp2_with (first | (go_at_call 76; refine (HN.out _ ht2).mono ?_; rintro e w3 ⟨rfl, hb3⟩) | (go_at_call 105; refine (HCP.out _).mono ?_; rintro e w4 ⟨rfl, rfl⟩))
      refine (HCt.out _).mono ?_
      rintro e w5 ⟨rfl, hb5⟩
      have hb15 := bthen (bthen hb2 hb3) hb5
      have L5 := L1.below hb15 L1.lt
      have c0 := L5.cell 0
      have c1 := L5.cell 1
      have f0 := L5.frozen 0
      have f1 := L5.frozen 1
      have hgl := L5.lt
      simp only [List.getElem?_cons_zero, List.getElem?_cons_succ] at c0 c1
      clear L1 L5
      go_wp2_with fail
      refine bodyPost_ret (v := .tuple #[.agg #[.string ⟨#[]⟩, .string ⟨#[]⟩], .bool false]) (by simp [results, Tryd.results82, go_sem, *]) rfl ⟨⟨#[]⟩, ⟨#[]⟩, false, rfl, .inr ⟨rfl, HD.out⟩, ?_⟩
      rw [← hg] at *
      exact (bthen b1 hb15).trans (by repeat (first | exact Below.refl _ _ | refine Below.alloc ?_ (by simp; have := b1.size; have := hb15.size; omega) _ | refine Below.setCell ?_ (by simp) _))
end Go.Proofs.YtojceibamgodbaaDoor
