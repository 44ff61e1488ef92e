/- Decoding a record, in the reference. -/
import Derived.Test.YtojceibamgodbaaDoorDec
import Derived.Test.YtojceibamgodbaaDoorSplit
import Derived.Test.YtojceibamgodbaaDoorFacts
namespace Go.Proofs.YtojceibamgodbaaDoor
open Go.RowKit

theorem split_first {w : World} {B : Nat} {A : Option Addr} {c : Nat} {s : ByteArray} {b : UInt8} (h : w.ownsRow B 9 1 (.slice A (splitL b (bl s)).length c) (splitL b (bl s)).length (texts (splitL b (bl s)))) :
    ∃ g, A = some ⟨g, 0, none⟩ ∧ w.cell? ⟨g, 0, none⟩ = some (.string (cutL s b)) ∧ B ≤ g ∧ g < w.heap.size := by
  obtain ⟨ps, hps, _⟩ := split_head b (bl s)
  have hlen : 0 < (splitL b (bl s)).length := by rw [hps]; simp
  obtain ⟨g, hA⟩ : ∃ g, A = some ⟨g, 0, none⟩ := by
    obtain ⟨_, h0 | ⟨g, cap, cur, hv, _⟩⟩ := h
    · have := h0.2; omega
    · injection hv with e1 e2 e3; exact ⟨g, e1⟩
  subst hA
  refine ⟨g, rfl, ?_, (h.lt g rfl).1, (h.lt g rfl).2⟩
  rw [h.cellAt 0 (by omega), hps]
  rfl

set_option maxRecDepth 100000 in
set_option maxHeartbeats 8000000 in
theorem l33Read_any (k : Nat) (s : ByteArray) (w : World) (hk : k ≤ 1000) (hs : s.size ≤ 1000000) :
    Calls Tryd.prog 84 #[.string s, .int .i64 k] w (GivesDec k s w) := by
  have b1 := (Below.refl w.heap.size w).alloc (Nat.le_refl _) (.cells #[.string ⟨#[]⟩, .string ⟨#[]⟩] 45)
  have L1 := Lies.new w 45 #[.string ⟨#[]⟩, .string ⟨#[]⟩]
  obtain ⟨t, htt⟩ : ∃ t : ByteArray, t = ⟨(Lib.itoa (k : Int)).toArray⟩ := ⟨_, rfl⟩
  have hts : t.size ≤ 100 := by rw [htt]; exact itoa_len (by omega) (by omega)
  have HN : Hid (∀ W, Calls Tryd.prog 80 #[.int .i64 k] W fun e w' => e = .returned (.string t) ∧ Below W.heap.size W w') := fun W => by rw [htt]; exact l1Num_any (k : Int) W (by omega) (by omega)
  have HT : Hid (bl t = Lib.itoa (k : Int)) := by rw [htt, Hid, bl_mk]
  have HPre : Hid (bl (t ++ ⟨#[32]⟩) = Lib.itoa (k : Int) ++ [32]) := by rw [Hid, bl_app, HT.out]; rfl
  clear htt
  have z1 : (⟨#[32]⟩ : ByteArray).size = 1 := rfl
  have z2 : (⟨#[10]⟩ : ByteArray).size = 1 := rfl
  have HSp := Lib.hid (fun W => l1Split_any s 35 W (by omega))
  obtain ⟨x, hx⟩ : ∃ x : ByteArray, x = cutL s 35 := ⟨_, rfl⟩
  have hbx : bl x = bef 35 (bl s) := by rw [hx]; unfold cutL; rw [bl_mk]
  have hxs : x.size ≤ 1000000 := by rw [← bl_size, hbx]; have := bef_len 35 (bl s); rw [bl_size] at this; omega
  have HFirst : Hid (∀ (W : World) (B : Nat) (A : Option Addr) (c : Nat), W.ownsRow B 9 1 (.slice A (splitL 35 (bl s)).length c) (splitL 35 (bl s)).length (texts (splitL 35 (bl s))) → ∃ g, A = some ⟨g, 0, none⟩ ∧ W.cell? ⟨g, 0, none⟩ = some (.string x) ∧ B ≤ g ∧ g < W.heap.size) := fun W B A c h => by
    rw [hx]; exact split_first h
  have hps1 : 1 ≤ (splitL 35 (bl s)).length := by obtain ⟨ps, e, _⟩ := split_head 35 (bl s); rw [e]; simp
  have hps2 : (splitL 35 (bl s)).length ≤ 1000001 := by have := parts_len 35 (bl s) []; rw [bl_size] at this; unfold splitL; omega
  obtain ⟨n0, hn0⟩ : ∃ n, n = (splitL 35 (bl s)).length := ⟨_, rfl⟩
  rw [← hn0] at HSp HFirst hps1 hps2
  clear hx hn0
  obtain ⟨p, hp⟩ : ∃ p : ByteArray, p = t ++ ⟨#[32]⟩ := ⟨_, rfl⟩
  have hpz : p.size = t.size + 1 := by rw [hp, size_app]; rfl

  by_cases hpre : (Lib.itoa (k : Int) ++ [32]) <+: bl x
  · have hsplit := pre_drop hpre
    have hpx : p.size ≤ x.size := by have := hpre.length_le; rw [← HPre.out, ← hp, bl_size, bl_size] at this; exact this
    obtain ⟨u, hu⟩ : ∃ u : ByteArray, u = x.extract p.size x.size := ⟨_, rfl⟩
    have hbu : bl u = (bl x).drop (Lib.itoa (k : Int) ++ [32]).length := by
      rw [hu, bl_extract, List.take_of_length_le (by rw [bl_size]; exact Nat.le_refl _), ← HPre.out, ← hp, bl_size]
    rw [← hbu] at hsplit
    have hus : u.size ≤ 1000000 := by rw [← bl_size, hbu, List.length_drop, bl_size]; omega
    have d1 : decide ((x.size : Int) < (p.size : Int)) = false := decide_eq_false (by omega)
    have d2 : ((x.extract 0 p.size).toList == p.toList) = true := by
      rw [str_beq]; refine decide_eq_true ?_
      have e1 : bl p = Lib.itoa (k : Int) ++ [32] := by rw [hp]; exact HPre.out
      rw [bl_extract, List.drop_zero, e1, hsplit, show p.size = (Lib.itoa (k : Int) ++ [32]).length by rw [← e1]; rfl]
      exact List.take_left' rfl
    have HSu : Hid (∀ W, Calls Tryd.prog 83 #[.string u, .int .u8 64] W fun e w' => ∃ A c, e = .returned (.slice A (splitL 64 (bl u)).length c) ∧ w'.ownsRow W.heap.size 9 1 (.slice A (splitL 64 (bl u)).length c) (splitL 64 (bl u)).length (texts (splitL 64 (bl u))) ∧ Below W.heap.size W w') := fun W => by
      exact l1Split_any u 64 W (by omega)
    have HFirstU : Hid (∀ (W : World) (B : Nat) (A : Option Addr) (c : Nat), W.ownsRow B 9 1 (.slice A (splitL 64 (bl u)).length c) (splitL 64 (bl u)).length (texts (splitL 64 (bl u))) → ∃ g, A = some ⟨g, 0, none⟩ ∧ W.cell? ⟨g, 0, none⟩ = some (.string (cutL u 64)) ∧ B ≤ g ∧ g < W.heap.size) := fun W B A c h => split_first h
    have hqs1 : 1 ≤ (splitL 64 (bl u)).length := by obtain ⟨ps, e, _⟩ := split_head 64 (bl u); rw [e]; simp
    have hqs2 : (splitL 64 (bl u)).length ≤ 1000001 := by have := parts_len 64 (bl u) []; rw [bl_size] at this; unfold splitL; omega
    obtain ⟨n1, hn1⟩ : ∃ n, n = (splitL 64 (bl u)).length := ⟨_, rfl⟩
    rw [← hn1] at HSu HFirstU hqs1 hqs2
    clear hn1
    have hcl : (cutL u 64).size ≤ u.size := by unfold cutL; rw [← bl_size, bl_mk]; have := bef_len 64 (bl u); rw [bl_size] at this; omega
    have hur : u.size = x.size - p.size := by rw [hu, ← bl_size, bl_extract, List.length_drop, List.length_take, bl_size]; omega
    have HPx : Hid (p = t ++ ⟨#[32]⟩) := hp
    subst hp
    rw [hpz] at hpx d1 d2 hur hu
    have HU := Lib.hid hu; clear hu
    have HUr := Lib.hid hur; clear hur
    have i1 : (t.size : Int) + 1 ≤ (x.size : Int) := by omega
    by_cases hat : (64 : UInt8) ∈ bl u
    · have hparts := parts_bef hat
      have hdec := dec_spec_rec (c := bl (cutL u 64)) (r := bl (cutR u 64)) (s := bl s) (k := k) (by rw [← hbx, hsplit]; rw [show bl (cutL u 64) ++ 64 :: bl (cutR u 64) = bl u by unfold cutL cutR; rw [bl_mk, bl_mk]; exact hparts.symm]) (by unfold cutL; rw [bl_mk]; exact bef_not 64 _)
      have hlen := congrArg List.length hparts
      have hcz : (cutL u 64).size = (bef 64 (bl u)).length := by unfold cutL; rw [← bl_size, bl_mk]
      simp only [List.length_append, List.length_cons, List.length_drop, bl_size] at hlen
      have hEz : (cutL u 64).size + 1 ≤ u.size := by omega
      have d3 : (((cutL u 64).size : Int) == (u.size : Int)) = false := by simp; omega
      have HR : Hid (u.extract ((cutL u 64).size + 1) u.size = cutR u 64) := by
        unfold cutR Hid; refine bl_ext ?_
        rw [bl_extract, List.take_of_length_le (by rw [bl_size]; exact Nat.le_refl _), hcz]
      have hcr : (cutR u 64).size ≤ 1000000 := by unfold cutR; rw [← bl_size, bl_mk, List.length_drop, bl_size]; omega
      have HG := Lib.hid (fun W => l33Good_any ⟨cutL u 64, cutR u 64⟩ W (by simp only; omega) (by simp only; omega))
      have HLn := Lib.hid (fun W => l33Line_any k ⟨cutL u 64, cutR u 64⟩ W hk (by simp only; omega) hcr)
      obtain ⟨ln, hln⟩ : ∃ ln : ByteArray, ln = ⟨(lineL k (bl (cutL u 64)) (bl (cutR u 64))).toArray⟩ := ⟨_, rfl⟩
      simp only [← hln] at HLn
      have hbln : bl ln = lineL k (bl (cutL u 64)) (bl (cutR u 64)) := by rw [hln, bl_mk]
      clear hlen hcz hparts hat
      cases hok : Rec.ok ⟨cutL u 64, cutR u 64⟩
      · rw [hok] at HG
        have HD : Hid (decF k (bl s) = none) := by
          rw [Hid, hdec, if_neg (fun h => by rw [show Rec.ok ⟨cutL u 64, cutR u 64⟩ = recOk (bl (cutL u 64)) (bl (cutR u 64)) from rfl, h.1] at hok; cases hok)]
        clear hpre hsplit hbu hbx hdec hok hln hbln

        go_enter Tryd.func84, Tryd.ntmps84
        go_wp2_with fail
        generalize w.alloc (.cells #[.string ⟨#[]⟩, .string ⟨#[]⟩] 45) = W at b1 L1 ⊢
        generalize hg : w.heap.size = g at L1 ⊢
        refine (HN.out _).mono ?_
        rintro e w2 ⟨rfl, hb2⟩
        go_wp2_with fail
        refine (HSp.out _).mono ?_
        rintro e w3 ⟨A3, c3, rfl, hO3, hb3⟩
        obtain ⟨g3, rfl, x0, hg3, hg3'⟩ := HFirst.out _ _ _ _ hO3
        have hb13 := bthen hb2 hb3
        have L3 := L1.below hb13 L1.lt
        clear hO3
        go_wp2_with fail
        rw [← HU.out]
        refine (HSu.out _).mono ?_
        rintro e w4 ⟨A4, c4, rfl, hO4, hb4⟩
        obtain ⟨g4, rfl, x1, hg4, hg4'⟩ := HFirstU.out _ _ _ _ hO4
        have hb14 := bthen hb13 hb4
        have L4 := L3.below hb4 L3.lt
        clear hO4
        have hEs : ((cutL u 64).size : Int) + 1 ≤ (u.size : Int) := by omega
        go_wp2_with fail
        rw [HR.out]
        have N5 := Lies.new w4 45 #[.string (cutL u 64), .string (cutR u 64)]
        have L5 := L4.alloc (.cells #[.string (cutL u 64), .string (cutR u 64)] 45)
        have hb5 := (bthen b1 hb14).trans ((Below.refl w.heap.size w4).alloc (by have := (bthen b1 hb14).size; omega) (.cells #[.string (cutL u 64), .string (cutR u 64)] 45))
        generalize w4.alloc (.cells #[.string (cutL u 64), .string (cutR u 64)] 45) = W5 at N5 L5 hb5 ⊢
        have hne : g ≠ w4.heap.size := by have := L4.lt; omega
        generalize w4.heap.size = ge at N5 hne ⊢
        have hgw : w.heap.size ≤ g := by omega
        clear L1 L3 L4 x0 x1
        refine wp_region_facts (fun W9 => (∃ a b, Lies W9 g 45 [.string a, .string b]) ∧ Lies W9 ge 45 [.string (cutL u 64), .string (cutR u 64)] ∧ Below w.heap.size w W9) (fun W8 W9 => Lies W8 g 45 [.string (cutL u 64), .string (cutR u 64)] → Lies W9 g 45 [.string (cutL u 64), .string (cutR u 64)]) (by kernel_rfl) (by kernel_rfl) (by kernel_rfl) ⟨⟨_, _, L5.below (Below.refl _ _).drew L5.lt⟩, N5.below (Below.refl _ _).drew N5.lt, hb5.drew⟩ ?_
        simp only [fillOps, Act.put, List.setIfInBounds_toArray, List.set_cons_zero, List.set_cons_succ, Nat.zero_add, Nat.reduceAdd]
        refine wpFacts_val (.agg #[.string (cutL u 64), .string (cutR u 64)]) (fun vs w9 hC9 hB K9 hK9 => ?_) ?_
        · obtain ⟨⟨a9, b9, hG9⟩, hN9, hW9⟩ := hC9
          have q0 : w9.cell? ⟨ge, 0, none⟩ = some (.string (cutL u 64)) := hN9.cell 0
          have q1 : w9.cell? ⟨ge, 1, none⟩ = some (.string (cutR u 64)) := hN9.cell 1
          go_simp
          exact hK9 _ _ rfl ⟨⟨a9, b9, hG9⟩, hN9, hW9⟩ id
        refine wpFacts_val (.agg #[.string (cutL u 64), .string (cutR u 64)]) (fun vs w9 hC9 hB K9 hK9 => ?_) ?_
        · obtain ⟨⟨a9, b9, hG9⟩, hN9, hW9⟩ := hC9
          have q0 : w9.cell? ⟨ge, 0, none⟩ = some (.string (cutL u 64)) := hN9.cell 0
          have q1 : w9.cell? ⟨ge, 1, none⟩ = some (.string (cutR u 64)) := hN9.cell 1
          go_simp
          exact hK9 _ _ rfl ⟨⟨a9, b9, hG9⟩, hN9, hW9⟩ id
        refine wpFacts_val (.bool false) (fun vs w9 hC9 hB K9 hK9 => ?_) ?_
        · have hd1 := hB 1 _ (by kernel_rfl) rfl
          simp only [hd1] at hK9 ⊢
          obtain ⟨⟨a9, b9, hG9⟩, hN9, hW9⟩ := hC9
          go_simp
          refine (HG.out _).mono ?_
          rintro e8 w8 ⟨rfl, hb8⟩
          exact hK9 _ _ rfl ⟨⟨a9, b9, hG9.below hb8 hG9.lt⟩, hN9.below hb8 hN9.lt, hW9.trans (hb8.mono hW9.size)⟩ (fun h => h.below hb8 h.lt)
        refine wpFacts_val (.bool false) (fun vs w9 hC9 hB K9 hK9 => ?_) ?_
        · have hd2 := hB 2 _ (by kernel_rfl) rfl
          simp only [hd2] at hK9 ⊢
          obtain ⟨⟨a9, b9, hG9⟩, hN9, hW9⟩ := hC9
          go_simp
          exact hK9 _ _ rfl ⟨⟨a9, b9, hG9⟩, hN9, hW9⟩ id
        refine wpFacts_val (undef) (fun vs w9 hC9 hB K9 hK9 => ?_) ?_
        · have hd3 := hB 3 _ (by kernel_rfl) rfl
          simp only [hd3] at hK9 ⊢
          obtain ⟨⟨a9, b9, hG9⟩, hN9, hW9⟩ := hC9
          go_simp
          exact hK9 _ _ rfl ⟨⟨a9, b9, hG9⟩, hN9, hW9⟩ id
        refine wpFacts_val (undef) (fun vs w9 hC9 hB K9 hK9 => ?_) ?_
        · have hd3 := hB 3 _ (by kernel_rfl) rfl
          simp only [hd3] at hK9 ⊢
          obtain ⟨⟨a9, b9, hG9⟩, hN9, hW9⟩ := hC9
          go_simp
          exact hK9 _ _ rfl ⟨⟨a9, b9, hG9⟩, hN9, hW9⟩ id
        refine wpFacts_val (undef) (fun vs w9 hC9 hB K9 hK9 => ?_) ?_
        · have hd3 := hB 3 _ (by kernel_rfl) rfl
          simp only [hd3] at hK9 ⊢
          obtain ⟨⟨a9, b9, hG9⟩, hN9, hW9⟩ := hC9
          go_simp
          exact hK9 _ _ rfl ⟨⟨a9, b9, hG9⟩, hN9, hW9⟩ id
        refine wpFacts_val (undef) (fun vs w9 hC9 hB K9 hK9 => ?_) ?_
        · have hd3 := hB 3 _ (by kernel_rfl) rfl
          simp only [hd3] at hK9 ⊢
          obtain ⟨⟨a9, b9, hG9⟩, hN9, hW9⟩ := hC9
          go_simp
          exact hK9 _ _ rfl ⟨⟨a9, b9, hG9⟩, hN9, hW9⟩ id
        refine wpFacts_val (undef) (fun vs w9 hC9 hB K9 hK9 => ?_) ?_
        · have hd3 := hB 3 _ (by kernel_rfl) rfl
          simp only [hd3] at hK9 ⊢
          obtain ⟨⟨a9, b9, hG9⟩, hN9, hW9⟩ := hC9
          go_simp
          exact hK9 _ _ rfl ⟨⟨a9, b9, hG9⟩, hN9, hW9⟩ id
        refine wpFacts_val (undef) (fun vs w9 hC9 hB K9 hK9 => ?_) ?_
        · have hd3 := hB 3 _ (by kernel_rfl) rfl
          simp only [hd3] at hK9 ⊢
          obtain ⟨⟨a9, b9, hG9⟩, hN9, hW9⟩ := hC9
          go_simp
          exact hK9 _ _ rfl ⟨⟨a9, b9, hG9⟩, hN9, hW9⟩ id
        refine wpFacts_val (.bool false) (fun vs w9 hC9 hB K9 hK9 => ?_) ?_
        · have hd3 := hB 3 _ (by kernel_rfl) rfl
          simp only [hd3] at hK9 ⊢
          obtain ⟨⟨a9, b9, hG9⟩, hN9, hW9⟩ := hC9
          go_simp
          exact hK9 _ _ rfl ⟨⟨a9, b9, hG9⟩, hN9, hW9⟩ id
        refine wpFacts_some (fun _ W9 => Lies W9 g 45 [.string (cutL u 64), .string (cutR u 64)]) (fun _ _ _ h hT => hT h) (fun vs w9 hC9 hB K9 hK9 => ?_) ?_
        · have hd0 := hB 0 _ (by kernel_rfl) rfl
          simp only [hd0] at hK9 ⊢
          obtain ⟨⟨a9, b9, hG9⟩, hN9, hW9⟩ := hC9
          have q0 : w9.cell? ⟨g, 0, none⟩ = some (.string a9) := hG9.cell 0
          have q1 : w9.cell? ⟨g, 1, none⟩ = some (.string b9) := hG9.cell 1
          have f0 := hG9.frozen 0
          have f1 := hG9.frozen 1
          have hS : Lies ((w9.setCell ⟨g, 0, none⟩ (.string (cutL u 64))).setCell ⟨g, 1, none⟩ (.string (cutR u 64))) g 45 [.string (cutL u 64), .string (cutR u 64)] := (hG9.set 0 (.string (cutL u 64))).set 1 (.string (cutR u 64))
          have hN : Lies ((w9.setCell ⟨g, 0, none⟩ (.string (cutL u 64))).setCell ⟨g, 1, none⟩ (.string (cutR u 64))) ge 45 [.string (cutL u 64), .string (cutR u 64)] := (hN9.other (p := ⟨g, 0, none⟩) (Ne.symm hne) _).other (p := ⟨g, 1, none⟩) (Ne.symm hne) _
          have hW := (hW9.setCell (p := ⟨g, 0, none⟩) hgw (.string (cutL u 64))).setCell (p := ⟨g, 1, none⟩) hgw (.string (cutR u 64))
          go_simp
          exact hK9 _ undef _ rfl hS ⟨⟨_, _, hS⟩, hN, hW⟩ (fun _ => hS)
        refine wpFacts_val (.bool false) (fun vs w9 hC9 hB K9 hK9 => ?_) ?_
        · have hd10 := hB 10 _ (by kernel_rfl) rfl
          simp only [hd10] at hK9 ⊢
          obtain ⟨⟨a9, b9, hG9⟩, hN9, hW9⟩ := hC9
          go_simp
          exact hK9 _ _ rfl ⟨⟨a9, b9, hG9⟩, hN9, hW9⟩ id
        refine wpFacts_nil fun vs W9 hC9 hB => ?_
        have hv12 := hB 12 _ rfl
        have hS := hB 11 _ rfl
        obtain ⟨_, _, hW9⟩ := hC9
        simp only [hv12]
        have c0 := hS.cell 0
        have c1 := hS.cell 1
        simp only [List.getElem?_cons_zero, List.getElem?_cons_succ] at c0 c1
        clear hS hB hv12
        go_wp2_with fail
        refine bodyPost_ret (v := .tuple #[.agg #[.string (cutL u 64), .string (cutR u 64)], .bool false]) (by simp [results, Tryd.results84, go_sem, *]) rfl ⟨cutL u 64, cutR u 64, false, rfl, .inr ⟨rfl, HD.out⟩, hW9⟩


      · rw [hok] at HG
        by_cases heq : lineL k (bl (cutL u 64)) (bl (cutR u 64)) = bl s ++ [10]
        · have HD : Hid (decF k (bl s) = some (bl (cutL u 64), bl (cutR u 64))) := by rw [Hid, hdec, if_pos ⟨hok, heq⟩]
          have HEq : Hid ((ln.toList == (s ++ ⟨#[10]⟩ : ByteArray).toList) = true) := by rw [Hid, str_beq]; exact decide_eq_true (by rw [hbln, heq, bl_app]; rfl)
          clear hpre hsplit hbu hbx hdec hok heq hln hbln

          go_enter Tryd.func84, Tryd.ntmps84
          go_wp2_with fail
          generalize w.alloc (.cells #[.string ⟨#[]⟩, .string ⟨#[]⟩] 45) = W at b1 L1 ⊢
          generalize hg : w.heap.size = g at L1 ⊢
          refine (HN.out _).mono ?_
          rintro e w2 ⟨rfl, hb2⟩
          go_wp2_with fail
          refine (HSp.out _).mono ?_
          rintro e w3 ⟨A3, c3, rfl, hO3, hb3⟩
          obtain ⟨g3, rfl, x0, hg3, hg3'⟩ := HFirst.out _ _ _ _ hO3
          have hb13 := bthen hb2 hb3
          have L3 := L1.below hb13 L1.lt
          clear hO3
          go_wp2_with fail
          rw [← HU.out]
          refine (HSu.out _).mono ?_
          rintro e w4 ⟨A4, c4, rfl, hO4, hb4⟩
          obtain ⟨g4, rfl, x1, hg4, hg4'⟩ := HFirstU.out _ _ _ _ hO4
          have hb14 := bthen hb13 hb4
          have L4 := L3.below hb4 L3.lt
          clear hO4
          have hEs : ((cutL u 64).size : Int) + 1 ≤ (u.size : Int) := by omega
          go_wp2_with fail
          rw [HR.out]
          have N5 := Lies.new w4 45 #[.string (cutL u 64), .string (cutR u 64)]
          have L5 := L4.alloc (.cells #[.string (cutL u 64), .string (cutR u 64)] 45)
          have hb5 := (bthen b1 hb14).trans ((Below.refl w.heap.size w4).alloc (by have := (bthen b1 hb14).size; omega) (.cells #[.string (cutL u 64), .string (cutR u 64)] 45))
          generalize w4.alloc (.cells #[.string (cutL u 64), .string (cutR u 64)] 45) = W5 at N5 L5 hb5 ⊢
          have hne : g ≠ w4.heap.size := by have := L4.lt; omega
          generalize w4.heap.size = ge at N5 hne ⊢
          have hgw : w.heap.size ≤ g := by omega
          clear L1 L3 L4 x0 x1
          refine wp_region_facts (fun W9 => (∃ a b, Lies W9 g 45 [.string a, .string b]) ∧ Lies W9 ge 45 [.string (cutL u 64), .string (cutR u 64)] ∧ Below w.heap.size w W9) (fun W8 W9 => Lies W8 g 45 [.string (cutL u 64), .string (cutR u 64)] → Lies W9 g 45 [.string (cutL u 64), .string (cutR u 64)]) (by kernel_rfl) (by kernel_rfl) (by kernel_rfl) ⟨⟨_, _, L5.below (Below.refl _ _).drew L5.lt⟩, N5.below (Below.refl _ _).drew N5.lt, hb5.drew⟩ ?_
          simp only [fillOps, Act.put, List.setIfInBounds_toArray, List.set_cons_zero, List.set_cons_succ, Nat.zero_add, Nat.reduceAdd]
          refine wpFacts_val (.agg #[.string (cutL u 64), .string (cutR u 64)]) (fun vs w9 hC9 hB K9 hK9 => ?_) ?_
          · obtain ⟨⟨a9, b9, hG9⟩, hN9, hW9⟩ := hC9
            have q0 : w9.cell? ⟨ge, 0, none⟩ = some (.string (cutL u 64)) := hN9.cell 0
            have q1 : w9.cell? ⟨ge, 1, none⟩ = some (.string (cutR u 64)) := hN9.cell 1
            go_simp
            exact hK9 _ _ rfl ⟨⟨a9, b9, hG9⟩, hN9, hW9⟩ id
          refine wpFacts_val (.agg #[.string (cutL u 64), .string (cutR u 64)]) (fun vs w9 hC9 hB K9 hK9 => ?_) ?_
          · obtain ⟨⟨a9, b9, hG9⟩, hN9, hW9⟩ := hC9
            have q0 : w9.cell? ⟨ge, 0, none⟩ = some (.string (cutL u 64)) := hN9.cell 0
            have q1 : w9.cell? ⟨ge, 1, none⟩ = some (.string (cutR u 64)) := hN9.cell 1
            go_simp
            exact hK9 _ _ rfl ⟨⟨a9, b9, hG9⟩, hN9, hW9⟩ id
          refine wpFacts_val (.bool true) (fun vs w9 hC9 hB K9 hK9 => ?_) ?_
          · have hd1 := hB 1 _ (by kernel_rfl) rfl
            simp only [hd1] at hK9 ⊢
            obtain ⟨⟨a9, b9, hG9⟩, hN9, hW9⟩ := hC9
            go_simp
            refine (HG.out _).mono ?_
            rintro e8 w8 ⟨rfl, hb8⟩
            exact hK9 _ _ rfl ⟨⟨a9, b9, hG9.below hb8 hG9.lt⟩, hN9.below hb8 hN9.lt, hW9.trans (hb8.mono hW9.size)⟩ (fun h => h.below hb8 h.lt)
          refine wpFacts_val (.bool true) (fun vs w9 hC9 hB K9 hK9 => ?_) ?_
          · have hd2 := hB 2 _ (by kernel_rfl) rfl
            simp only [hd2] at hK9 ⊢
            obtain ⟨⟨a9, b9, hG9⟩, hN9, hW9⟩ := hC9
            go_simp
            exact hK9 _ _ rfl ⟨⟨a9, b9, hG9⟩, hN9, hW9⟩ id
          refine wpFacts_val (.int .i64 (k : Int)) (fun vs w9 hC9 hB K9 hK9 => ?_) ?_
          · have hd3 := hB 3 _ (by kernel_rfl) rfl
            simp only [hd3] at hK9 ⊢
            obtain ⟨⟨a9, b9, hG9⟩, hN9, hW9⟩ := hC9
            go_simp
            exact hK9 _ _ rfl ⟨⟨a9, b9, hG9⟩, hN9, hW9⟩ id
          refine wpFacts_val (.agg #[.string (cutL u 64), .string (cutR u 64)]) (fun vs w9 hC9 hB K9 hK9 => ?_) ?_
          · have hd3 := hB 3 _ (by kernel_rfl) rfl
            simp only [hd3] at hK9 ⊢
            obtain ⟨⟨a9, b9, hG9⟩, hN9, hW9⟩ := hC9
            have q0 : w9.cell? ⟨ge, 0, none⟩ = some (.string (cutL u 64)) := hN9.cell 0
            have q1 : w9.cell? ⟨ge, 1, none⟩ = some (.string (cutR u 64)) := hN9.cell 1
            go_simp
            exact hK9 _ _ rfl ⟨⟨a9, b9, hG9⟩, hN9, hW9⟩ id
          refine wpFacts_val (.string ln) (fun vs w9 hC9 hB K9 hK9 => ?_) ?_
          · have hd3 := hB 3 _ (by kernel_rfl) rfl
            have hd4 := hB 4 _ (by kernel_rfl) rfl
            have hd5 := hB 5 _ (by kernel_rfl) rfl
            simp only [hd3, hd4, hd5] at hK9 ⊢
            obtain ⟨⟨a9, b9, hG9⟩, hN9, hW9⟩ := hC9
            go_simp
            refine (HLn.out _).mono ?_
            rintro e8 w8 ⟨rfl, hb8⟩
            exact hK9 _ _ rfl ⟨⟨a9, b9, hG9.below hb8 hG9.lt⟩, hN9.below hb8 hN9.lt, hW9.trans (hb8.mono hW9.size)⟩ (fun h => h.below hb8 h.lt)
          refine wpFacts_val (.string s) (fun vs w9 hC9 hB K9 hK9 => ?_) ?_
          · have hd3 := hB 3 _ (by kernel_rfl) rfl
            simp only [hd3] at hK9 ⊢
            obtain ⟨⟨a9, b9, hG9⟩, hN9, hW9⟩ := hC9
            go_simp
            exact hK9 _ _ rfl ⟨⟨a9, b9, hG9⟩, hN9, hW9⟩ id
          refine wpFacts_val (.string (s ++ ⟨#[10]⟩)) (fun vs w9 hC9 hB K9 hK9 => ?_) ?_
          · have hd3 := hB 3 _ (by kernel_rfl) rfl
            have hd7 := hB 7 _ (by kernel_rfl) rfl
            simp only [hd3, hd7] at hK9 ⊢
            obtain ⟨⟨a9, b9, hG9⟩, hN9, hW9⟩ := hC9
            go_simp
            (first | (rw [if_neg (by omega)]; go_simp) | skip)
            exact hK9 _ _ rfl ⟨⟨a9, b9, hG9⟩, hN9, hW9⟩ id
          refine wpFacts_val (.bool true) (fun vs w9 hC9 hB K9 hK9 => ?_) ?_
          · have hd3 := hB 3 _ (by kernel_rfl) rfl
            have hd6 := hB 6 _ (by kernel_rfl) rfl
            have hd8 := hB 8 _ (by kernel_rfl) rfl
            simp only [hd3, hd6, hd8] at hK9 ⊢
            obtain ⟨⟨a9, b9, hG9⟩, hN9, hW9⟩ := hC9
            have hq := HEq.out
            go_simp
            exact hK9 _ _ rfl ⟨⟨a9, b9, hG9⟩, hN9, hW9⟩ id
          refine wpFacts_val (.bool true) (fun vs w9 hC9 hB K9 hK9 => ?_) ?_
          · have hd3 := hB 3 _ (by kernel_rfl) rfl
            have hd9 := hB 9 _ (by kernel_rfl) rfl
            simp only [hd3, hd9] at hK9 ⊢
            obtain ⟨⟨a9, b9, hG9⟩, hN9, hW9⟩ := hC9
            go_simp
            exact hK9 _ _ rfl ⟨⟨a9, b9, hG9⟩, hN9, hW9⟩ id
          refine wpFacts_some (fun _ W9 => Lies W9 g 45 [.string (cutL u 64), .string (cutR u 64)]) (fun _ _ _ h hT => hT h) (fun vs w9 hC9 hB K9 hK9 => ?_) ?_
          · have hd0 := hB 0 _ (by kernel_rfl) rfl
            simp only [hd0] at hK9 ⊢
            obtain ⟨⟨a9, b9, hG9⟩, hN9, hW9⟩ := hC9
            have q0 : w9.cell? ⟨g, 0, none⟩ = some (.string a9) := hG9.cell 0
            have q1 : w9.cell? ⟨g, 1, none⟩ = some (.string b9) := hG9.cell 1
            have f0 := hG9.frozen 0
            have f1 := hG9.frozen 1
            have hS : Lies ((w9.setCell ⟨g, 0, none⟩ (.string (cutL u 64))).setCell ⟨g, 1, none⟩ (.string (cutR u 64))) g 45 [.string (cutL u 64), .string (cutR u 64)] := (hG9.set 0 (.string (cutL u 64))).set 1 (.string (cutR u 64))
            have hN : Lies ((w9.setCell ⟨g, 0, none⟩ (.string (cutL u 64))).setCell ⟨g, 1, none⟩ (.string (cutR u 64))) ge 45 [.string (cutL u 64), .string (cutR u 64)] := (hN9.other (p := ⟨g, 0, none⟩) (Ne.symm hne) _).other (p := ⟨g, 1, none⟩) (Ne.symm hne) _
            have hW := (hW9.setCell (p := ⟨g, 0, none⟩) hgw (.string (cutL u 64))).setCell (p := ⟨g, 1, none⟩) hgw (.string (cutR u 64))
            go_simp
            exact hK9 _ undef _ rfl hS ⟨⟨_, _, hS⟩, hN, hW⟩ (fun _ => hS)
          refine wpFacts_val (.bool true) (fun vs w9 hC9 hB K9 hK9 => ?_) ?_
          · have hd10 := hB 10 _ (by kernel_rfl) rfl
            simp only [hd10] at hK9 ⊢
            obtain ⟨⟨a9, b9, hG9⟩, hN9, hW9⟩ := hC9
            go_simp
            exact hK9 _ _ rfl ⟨⟨a9, b9, hG9⟩, hN9, hW9⟩ id
          refine wpFacts_nil fun vs W9 hC9 hB => ?_
          have hv12 := hB 12 _ rfl
          have hS := hB 11 _ rfl
          obtain ⟨_, _, hW9⟩ := hC9
          simp only [hv12]
          have c0 := hS.cell 0
          have c1 := hS.cell 1
          simp only [List.getElem?_cons_zero, List.getElem?_cons_succ] at c0 c1
          clear hS hB hv12
          go_wp2_with fail
          refine bodyPost_ret (v := .tuple #[.agg #[.string (cutL u 64), .string (cutR u 64)], .bool true]) (by simp [results, Tryd.results84, go_sem, *]) rfl ⟨cutL u 64, cutR u 64, true, rfl, .inl ⟨rfl, HD.out⟩, hW9⟩


        · have HD : Hid (decF k (bl s) = none) := by rw [Hid, hdec, if_neg (fun h => heq h.2)]
          have HEq : Hid ((ln.toList == (s ++ ⟨#[10]⟩ : ByteArray).toList) = false) := by rw [Hid, str_beq]; exact decide_eq_false (fun h => heq (by rw [← hbln, h, bl_app]; rfl))
          clear hpre hsplit hbu hbx hdec hok heq hln hbln

          go_enter Tryd.func84, Tryd.ntmps84
          go_wp2_with fail
          generalize w.alloc (.cells #[.string ⟨#[]⟩, .string ⟨#[]⟩] 45) = W at b1 L1 ⊢
          generalize hg : w.heap.size = g at L1 ⊢
          refine (HN.out _).mono ?_
          rintro e w2 ⟨rfl, hb2⟩
          go_wp2_with fail
          refine (HSp.out _).mono ?_
          rintro e w3 ⟨A3, c3, rfl, hO3, hb3⟩
          obtain ⟨g3, rfl, x0, hg3, hg3'⟩ := HFirst.out _ _ _ _ hO3
          have hb13 := bthen hb2 hb3
          have L3 := L1.below hb13 L1.lt
          clear hO3
          go_wp2_with fail
          rw [← HU.out]
          refine (HSu.out _).mono ?_
          rintro e w4 ⟨A4, c4, rfl, hO4, hb4⟩
          obtain ⟨g4, rfl, x1, hg4, hg4'⟩ := HFirstU.out _ _ _ _ hO4
          have hb14 := bthen hb13 hb4
          have L4 := L3.below hb4 L3.lt
          clear hO4
          have hEs : ((cutL u 64).size : Int) + 1 ≤ (u.size : Int) := by omega
          go_wp2_with fail
          rw [HR.out]
          have N5 := Lies.new w4 45 #[.string (cutL u 64), .string (cutR u 64)]
          have L5 := L4.alloc (.cells #[.string (cutL u 64), .string (cutR u 64)] 45)
          have hb5 := (bthen b1 hb14).trans ((Below.refl w.heap.size w4).alloc (by have := (bthen b1 hb14).size; omega) (.cells #[.string (cutL u 64), .string (cutR u 64)] 45))
          generalize w4.alloc (.cells #[.string (cutL u 64), .string (cutR u 64)] 45) = W5 at N5 L5 hb5 ⊢
          have hne : g ≠ w4.heap.size := by have := L4.lt; omega
          generalize w4.heap.size = ge at N5 hne ⊢
          have hgw : w.heap.size ≤ g := by omega
          clear L1 L3 L4 x0 x1
          refine wp_region_facts (fun W9 => (∃ a b, Lies W9 g 45 [.string a, .string b]) ∧ Lies W9 ge 45 [.string (cutL u 64), .string (cutR u 64)] ∧ Below w.heap.size w W9) (fun W8 W9 => Lies W8 g 45 [.string (cutL u 64), .string (cutR u 64)] → Lies W9 g 45 [.string (cutL u 64), .string (cutR u 64)]) (by kernel_rfl) (by kernel_rfl) (by kernel_rfl) ⟨⟨_, _, L5.below (Below.refl _ _).drew L5.lt⟩, N5.below (Below.refl _ _).drew N5.lt, hb5.drew⟩ ?_
          simp only [fillOps, Act.put, List.setIfInBounds_toArray, List.set_cons_zero, List.set_cons_succ, Nat.zero_add, Nat.reduceAdd]
          refine wpFacts_val (.agg #[.string (cutL u 64), .string (cutR u 64)]) (fun vs w9 hC9 hB K9 hK9 => ?_) ?_
          · obtain ⟨⟨a9, b9, hG9⟩, hN9, hW9⟩ := hC9
            have q0 : w9.cell? ⟨ge, 0, none⟩ = some (.string (cutL u 64)) := hN9.cell 0
            have q1 : w9.cell? ⟨ge, 1, none⟩ = some (.string (cutR u 64)) := hN9.cell 1
            go_simp
            exact hK9 _ _ rfl ⟨⟨a9, b9, hG9⟩, hN9, hW9⟩ id
          refine wpFacts_val (.agg #[.string (cutL u 64), .string (cutR u 64)]) (fun vs w9 hC9 hB K9 hK9 => ?_) ?_
          · obtain ⟨⟨a9, b9, hG9⟩, hN9, hW9⟩ := hC9
            have q0 : w9.cell? ⟨ge, 0, none⟩ = some (.string (cutL u 64)) := hN9.cell 0
            have q1 : w9.cell? ⟨ge, 1, none⟩ = some (.string (cutR u 64)) := hN9.cell 1
            go_simp
            exact hK9 _ _ rfl ⟨⟨a9, b9, hG9⟩, hN9, hW9⟩ id
          refine wpFacts_val (.bool true) (fun vs w9 hC9 hB K9 hK9 => ?_) ?_
          · have hd1 := hB 1 _ (by kernel_rfl) rfl
            simp only [hd1] at hK9 ⊢
            obtain ⟨⟨a9, b9, hG9⟩, hN9, hW9⟩ := hC9
            go_simp
            refine (HG.out _).mono ?_
            rintro e8 w8 ⟨rfl, hb8⟩
            exact hK9 _ _ rfl ⟨⟨a9, b9, hG9.below hb8 hG9.lt⟩, hN9.below hb8 hN9.lt, hW9.trans (hb8.mono hW9.size)⟩ (fun h => h.below hb8 h.lt)
          refine wpFacts_val (.bool true) (fun vs w9 hC9 hB K9 hK9 => ?_) ?_
          · have hd2 := hB 2 _ (by kernel_rfl) rfl
            simp only [hd2] at hK9 ⊢
            obtain ⟨⟨a9, b9, hG9⟩, hN9, hW9⟩ := hC9
            go_simp
            exact hK9 _ _ rfl ⟨⟨a9, b9, hG9⟩, hN9, hW9⟩ id
          refine wpFacts_val (.int .i64 (k : Int)) (fun vs w9 hC9 hB K9 hK9 => ?_) ?_
          · have hd3 := hB 3 _ (by kernel_rfl) rfl
            simp only [hd3] at hK9 ⊢
            obtain ⟨⟨a9, b9, hG9⟩, hN9, hW9⟩ := hC9
            go_simp
            exact hK9 _ _ rfl ⟨⟨a9, b9, hG9⟩, hN9, hW9⟩ id
          refine wpFacts_val (.agg #[.string (cutL u 64), .string (cutR u 64)]) (fun vs w9 hC9 hB K9 hK9 => ?_) ?_
          · have hd3 := hB 3 _ (by kernel_rfl) rfl
            simp only [hd3] at hK9 ⊢
            obtain ⟨⟨a9, b9, hG9⟩, hN9, hW9⟩ := hC9
            have q0 : w9.cell? ⟨ge, 0, none⟩ = some (.string (cutL u 64)) := hN9.cell 0
            have q1 : w9.cell? ⟨ge, 1, none⟩ = some (.string (cutR u 64)) := hN9.cell 1
            go_simp
            exact hK9 _ _ rfl ⟨⟨a9, b9, hG9⟩, hN9, hW9⟩ id
          refine wpFacts_val (.string ln) (fun vs w9 hC9 hB K9 hK9 => ?_) ?_
          · have hd3 := hB 3 _ (by kernel_rfl) rfl
            have hd4 := hB 4 _ (by kernel_rfl) rfl
            have hd5 := hB 5 _ (by kernel_rfl) rfl
            simp only [hd3, hd4, hd5] at hK9 ⊢
            obtain ⟨⟨a9, b9, hG9⟩, hN9, hW9⟩ := hC9
            go_simp
            refine (HLn.out _).mono ?_
            rintro e8 w8 ⟨rfl, hb8⟩
            exact hK9 _ _ rfl ⟨⟨a9, b9, hG9.below hb8 hG9.lt⟩, hN9.below hb8 hN9.lt, hW9.trans (hb8.mono hW9.size)⟩ (fun h => h.below hb8 h.lt)
          refine wpFacts_val (.string s) (fun vs w9 hC9 hB K9 hK9 => ?_) ?_
          · have hd3 := hB 3 _ (by kernel_rfl) rfl
            simp only [hd3] at hK9 ⊢
            obtain ⟨⟨a9, b9, hG9⟩, hN9, hW9⟩ := hC9
            go_simp
            exact hK9 _ _ rfl ⟨⟨a9, b9, hG9⟩, hN9, hW9⟩ id
          refine wpFacts_val (.string (s ++ ⟨#[10]⟩)) (fun vs w9 hC9 hB K9 hK9 => ?_) ?_
          · have hd3 := hB 3 _ (by kernel_rfl) rfl
            have hd7 := hB 7 _ (by kernel_rfl) rfl
            simp only [hd3, hd7] at hK9 ⊢
            obtain ⟨⟨a9, b9, hG9⟩, hN9, hW9⟩ := hC9
            go_simp
            (first | (rw [if_neg (by omega)]; go_simp) | skip)
            exact hK9 _ _ rfl ⟨⟨a9, b9, hG9⟩, hN9, hW9⟩ id
          refine wpFacts_val (.bool false) (fun vs w9 hC9 hB K9 hK9 => ?_) ?_
          · have hd3 := hB 3 _ (by kernel_rfl) rfl
            have hd6 := hB 6 _ (by kernel_rfl) rfl
            have hd8 := hB 8 _ (by kernel_rfl) rfl
            simp only [hd3, hd6, hd8] at hK9 ⊢
            obtain ⟨⟨a9, b9, hG9⟩, hN9, hW9⟩ := hC9
            have hq := HEq.out
            go_simp
            exact hK9 _ _ rfl ⟨⟨a9, b9, hG9⟩, hN9, hW9⟩ id
          refine wpFacts_val (.bool false) (fun vs w9 hC9 hB K9 hK9 => ?_) ?_
          · have hd3 := hB 3 _ (by kernel_rfl) rfl
            have hd9 := hB 9 _ (by kernel_rfl) rfl
            simp only [hd3, hd9] at hK9 ⊢
            obtain ⟨⟨a9, b9, hG9⟩, hN9, hW9⟩ := hC9
            go_simp
            exact hK9 _ _ rfl ⟨⟨a9, b9, hG9⟩, hN9, hW9⟩ id
          refine wpFacts_some (fun _ W9 => Lies W9 g 45 [.string (cutL u 64), .string (cutR u 64)]) (fun _ _ _ h hT => hT h) (fun vs w9 hC9 hB K9 hK9 => ?_) ?_
          · have hd0 := hB 0 _ (by kernel_rfl) rfl
            simp only [hd0] at hK9 ⊢
            obtain ⟨⟨a9, b9, hG9⟩, hN9, hW9⟩ := hC9
            have q0 : w9.cell? ⟨g, 0, none⟩ = some (.string a9) := hG9.cell 0
            have q1 : w9.cell? ⟨g, 1, none⟩ = some (.string b9) := hG9.cell 1
            have f0 := hG9.frozen 0
            have f1 := hG9.frozen 1
            have hS : Lies ((w9.setCell ⟨g, 0, none⟩ (.string (cutL u 64))).setCell ⟨g, 1, none⟩ (.string (cutR u 64))) g 45 [.string (cutL u 64), .string (cutR u 64)] := (hG9.set 0 (.string (cutL u 64))).set 1 (.string (cutR u 64))
            have hN : Lies ((w9.setCell ⟨g, 0, none⟩ (.string (cutL u 64))).setCell ⟨g, 1, none⟩ (.string (cutR u 64))) ge 45 [.string (cutL u 64), .string (cutR u 64)] := (hN9.other (p := ⟨g, 0, none⟩) (Ne.symm hne) _).other (p := ⟨g, 1, none⟩) (Ne.symm hne) _
            have hW := (hW9.setCell (p := ⟨g, 0, none⟩) hgw (.string (cutL u 64))).setCell (p := ⟨g, 1, none⟩) hgw (.string (cutR u 64))
            go_simp
            exact hK9 _ undef _ rfl hS ⟨⟨_, _, hS⟩, hN, hW⟩ (fun _ => hS)
          refine wpFacts_val (.bool false) (fun vs w9 hC9 hB K9 hK9 => ?_) ?_
          · have hd10 := hB 10 _ (by kernel_rfl) rfl
            simp only [hd10] at hK9 ⊢
            obtain ⟨⟨a9, b9, hG9⟩, hN9, hW9⟩ := hC9
            go_simp
            exact hK9 _ _ rfl ⟨⟨a9, b9, hG9⟩, hN9, hW9⟩ id
          refine wpFacts_nil fun vs W9 hC9 hB => ?_
          have hv12 := hB 12 _ rfl
          have hS := hB 11 _ rfl
          obtain ⟨_, _, hW9⟩ := hC9
          simp only [hv12]
          have c0 := hS.cell 0
          have c1 := hS.cell 1
          simp only [List.getElem?_cons_zero, List.getElem?_cons_succ] at c0 c1
          clear hS hB hv12
          go_wp2_with fail
          refine bodyPost_ret (v := .tuple #[.agg #[.string (cutL u 64), .string (cutR u 64)], .bool false]) (by simp [results, Tryd.results84, go_sem, *]) rfl ⟨cutL u 64, cutR u 64, false, rfl, .inr ⟨rfl, HD.out⟩, hW9⟩


    · have HD : Hid (decF k (bl s) = none) := dec_spec_at (by rw [← hbx]; exact hsplit) hat
      have hwh : (cutL u 64).size = u.size := by unfold cutL; rw [← bl_size, bl_mk, ← bl_size]; exact bef_whole.2 hat
      have d3 : (((cutL u 64).size : Int) == (u.size : Int)) = true := by rw [hwh]; simp
      clear hpre hsplit hbu hat hbx hwh

      go_enter Tryd.func84, Tryd.ntmps84
      go_wp2_with fail
      generalize w.alloc (.cells #[.string ⟨#[]⟩, .string ⟨#[]⟩] 45) = W at b1 L1 ⊢
      generalize hg : w.heap.size = g at L1 ⊢
      refine (HN.out _).mono ?_
      rintro e w2 ⟨rfl, hb2⟩
      go_wp2_with fail
      refine (HSp.out _).mono ?_
      rintro e w3 ⟨A3, c3, rfl, hO3, hb3⟩
      obtain ⟨g3, rfl, x0, hg3, hg3'⟩ := HFirst.out _ _ _ _ hO3
      have hb13 := bthen hb2 hb3
      have L3 := L1.below hb13 L1.lt
      clear hO3
      go_wp2_with fail
      rw [← HU.out]
      refine (HSu.out _).mono ?_
      rintro e w4 ⟨A4, c4, rfl, hO4, hb4⟩
      obtain ⟨g4, rfl, x1, hg4, hg4'⟩ := HFirstU.out _ _ _ _ hO4
      have hb14 := bthen hb13 hb4
      have L4 := L3.below hb4 L3.lt
      clear hO4

      have c0 := L4.cell 0
      have c1 := L4.cell 1
      have f0 := L4.frozen 0
      have f1 := L4.frozen 1
      have hgl := L4.lt
      simp only [List.getElem?_cons_zero, List.getElem?_cons_succ] at c0 c1
      clear L1 L4
      go_wp2_with fail
      refine bodyPost_ret (v := .tuple #[.agg #[.string ⟨#[]⟩, .string ⟨#[]⟩], .bool false]) (by simp [results, Tryd.results84, go_sem, *]) rfl ⟨⟨#[]⟩, ⟨#[]⟩, false, rfl, .inr ⟨rfl, HD.out⟩, ?_⟩
      rw [← hg] at *
      exact (bthen b1 hb14).trans (by repeat (first | exact Below.refl _ _ | refine Below.alloc ?_ (by simp; have := b1.size; have := hb14.size; omega) _ | refine Below.setCell ?_ (by simp) _))


  · have HD : Hid (decF k (bl s) = none) := dec_spec_num (by rw [← hbx]; exact hpre)
    by_cases hsz : x.size < p.size
    · have d1 : decide ((x.size : Int) < (t.size : Int) + 1) = true := decide_eq_true (by omega)
      clear hpre hbx hp hsz

      go_enter Tryd.func84, Tryd.ntmps84
      go_wp2_with fail
      generalize w.alloc (.cells #[.string ⟨#[]⟩, .string ⟨#[]⟩] 45) = W at b1 L1 ⊢
      generalize hg : w.heap.size = g at L1 ⊢
      refine (HN.out _).mono ?_
      rintro e w2 ⟨rfl, hb2⟩
      go_wp2_with fail
      refine (HSp.out _).mono ?_
      rintro e w3 ⟨A3, c3, rfl, hO3, hb3⟩
      obtain ⟨g3, rfl, x0, hg3, hg3'⟩ := HFirst.out _ _ _ _ hO3
      have hb13 := bthen hb2 hb3
      have L3 := L1.below hb13 L1.lt
      clear hO3
      have c0 := L3.cell 0
      have c1 := L3.cell 1
      have f0 := L3.frozen 0
      have f1 := L3.frozen 1
      have hgl := L3.lt
      simp only [List.getElem?_cons_zero, List.getElem?_cons_succ] at c0 c1
      clear L1 L3
      go_wp2_with fail
      refine bodyPost_ret (v := .tuple #[.agg #[.string ⟨#[]⟩, .string ⟨#[]⟩], .bool false]) (by simp [results, Tryd.results84, go_sem, *]) rfl ⟨⟨#[]⟩, ⟨#[]⟩, false, rfl, .inr ⟨rfl, HD.out⟩, ?_⟩
      rw [← hg] at *
      exact (bthen b1 hb13).trans (by repeat (first | exact Below.refl _ _ | refine Below.alloc ?_ (by simp; have := b1.size; have := hb13.size; omega) _ | refine Below.setCell ?_ (by simp) _))

    · have d1 : decide ((x.size : Int) < (t.size : Int) + 1) = false := decide_eq_false (by omega)
      have d2 : ((x.extract 0 (t.size + 1)).toList == (t ++ ⟨#[32]⟩).toList) = false := by
        rw [str_beq]; refine decide_eq_false fun e => hpre ?_
        rw [HPre.out, bl_extract, List.drop_zero] at e
        rw [← e]; exact List.take_prefix _ _
      have i1 : (t.size : Int) + 1 ≤ (x.size : Int) := by omega
      clear hpre hbx hp hsz

      go_enter Tryd.func84, Tryd.ntmps84
      go_wp2_with fail
      generalize w.alloc (.cells #[.string ⟨#[]⟩, .string ⟨#[]⟩] 45) = W at b1 L1 ⊢
      generalize hg : w.heap.size = g at L1 ⊢
      refine (HN.out _).mono ?_
      rintro e w2 ⟨rfl, hb2⟩
      go_wp2_with fail
      refine (HSp.out _).mono ?_
      rintro e w3 ⟨A3, c3, rfl, hO3, hb3⟩
      obtain ⟨g3, rfl, x0, hg3, hg3'⟩ := HFirst.out _ _ _ _ hO3
      have hb13 := bthen hb2 hb3
      have L3 := L1.below hb13 L1.lt
      clear hO3
      have c0 := L3.cell 0
      have c1 := L3.cell 1
      have f0 := L3.frozen 0
      have f1 := L3.frozen 1
      have hgl := L3.lt
      simp only [List.getElem?_cons_zero, List.getElem?_cons_succ] at c0 c1
      clear L1 L3
      go_wp2_with fail
      refine bodyPost_ret (v := .tuple #[.agg #[.string ⟨#[]⟩, .string ⟨#[]⟩], .bool false]) (by simp [results, Tryd.results84, go_sem, *]) rfl ⟨⟨#[]⟩, ⟨#[]⟩, false, rfl, .inr ⟨rfl, HD.out⟩, ?_⟩
      rw [← hg] at *
      exact (bthen b1 hb13).trans (by repeat (first | exact Below.refl _ _ | refine Below.alloc ?_ (by simp; have := b1.size; have := hb13.size; omega) _ | refine Below.setCell ?_ (by simp) _))

end Go.Proofs.YtojceibamgodbaaDoor
