/- Rl08: the texts Plain Sum Line Ver Cut Dec Read LogI Split DecS, joined into one file. -/
import Derived.Test.YtoeoimhemojdeaaGreatDoorProg
import Derived.Test.YtoeoimhemojdeaaGreatDoorRl01
import Derived.Test.YtoeoimhemojdeaaGreatDoorRl03
import Derived.Test.YtoeoimhemojdeaaGreatDoorRl07

set_option linter.unusedVariables false
open Go.Value renaming int → O, slice → F, string → sQ
open Go.IntKind renaming i64 → U

namespace Go.Proofs.YtoeoimhemojdeaaGreatDoor
open Go.RowKit
theorem it {c:UInt8} : iF c=true ↔ 32≤c.toNat∧c.toNat≤126∧c.toNat ≠ 35:=by
 unfold iF
 simp only [Bool.and_eq_true,decide_eq_true_eq,bne_iff_ne,ne_eq,and_assoc]
 constructor <;> (rintro ⟨h1,h2,h3⟩; refine ⟨h1,h2,fun h=>h3 ?_⟩)
 ·exact UInt8.toNat_inj.1 h
 ·rw [h]; rfl
theorem lY {s:ByteArray} {k:Nat} (h:k < s.size):bQ ((bl s).drop k)=(iF s[k] && bQ ((bl s).drop (k+1))):=by rw [i7 h]; rfl
set_option maxHeartbeats 1000000 in
theorem nu (s:ByteArray) (m:Int) (w:World) (hs:s.size≤1000000000) :
  Calls Tryz.prog 83 #[sQ s,O U m] w fun e w'=>e=.returned (.bool (bQ (bl s) && decide ((s.size:Int)≤m)))∧w=w':=by
 have HF:Hid (bQ ((bl s).drop 0)=bQ (bl s)):=rfl
 go_enter Tryz.func83,Tryz.ntmps83
 go_wp2
 go_loop [5] (fun i=>∃ k:Nat,k≤s.size∧i=O U k∧Hid (bQ ((bl s).drop k)=bQ (bl s))) (fun i=>s.size - (intOf i).toNat)
 case atStart=>exact ⟨0,Nat.zero_le _,rfl,HF⟩
 case round =>
  obtain ⟨k,hk,rfl,HR⟩:=hrel
  by_cases hlt:k < s.size
  ·have HD:=Lib.hid (lY hlt)
   have u1:(s[k].toNat:Int)≤255:=by have:=UInt8.toNat_lt s[k]; omega
   cases hp:iF s[k]
   ·rw [hp] at HD
    have HN:Hid (bQ (bl s)=false):=by rw [Hid,← HR.out,HD.out]; rfl
    by_cases h1:bI (s[k].toNat:Int) 32 126=true
    ·have h2:((s[k].toNat:Int) == 35)=true:=by
      rw [bH] at h1
      have : ¬ (32≤s[k].toNat∧s[k].toNat≤126∧s[k].toNat ≠ 35):=fun h=>by rw [it.2 h] at hp; cases hp
      simp; omega
     clear hp
     have H1:=Lib.hid h1; clear h1
     go_wp2_with (go_at_call 134; refine (aE _ _ _ _).mono ?_; rw [H1.out]; rintro e w' ⟨rfl,rfl⟩)
     go_ret
     exact ⟨by rw [HN.out]; rfl,rfl⟩
    ·have h1' : bI (s[k].toNat:Int) 32 126=false:=by simpa using h1
     clear hp h1
     have H1:=Lib.hid h1'; clear h1'
     go_wp2_with (go_at_call 134; refine (aE _ _ _ _).mono ?_; rw [H1.out]; rintro e w' ⟨rfl,rfl⟩)
     go_ret
     exact ⟨by rw [HN.out]; rfl,rfl⟩
   ·rw [hp] at HD
    rw [it] at hp
    have H1:Hid (bI (s[k].toNat:Int) 32 126=true):=by rw [Hid,bH]; omega
    have h2:((s[k].toNat:Int) == 35)=false:=by simp; omega
    clear hp
    go_wp2_with (go_at_call 134; refine (aE _ _ _ _).mono ?_; rw [H1.out]; rintro e w' ⟨rfl,rfl⟩)
    go_round
    case rel=>exact ⟨k+1,by omega,by go_num,by have h:=HR.out; rw [HD.out] at h; exact h⟩
    case measure=>simp [intOf]; omega
  ·have HK:Hid (bQ (bl s)=true):=by
    have h1:=HR.out
    rw [List.drop_eq_nil_of_le (by rw [ap]; omega)] at h1; exact h1.symm
   go_wp2
   go_ret
   exact ⟨by rw [HK.out]; rfl,rfl⟩
set_option maxHeartbeats 1000000 in
theorem lq (s:ByteArray) (w:World) (hs:s.size≤1000000000) :
  Calls Tryz.prog 94 #[sQ s] w fun e w'=>e=.returned (.bool (bQ (bl s)))∧w=w':=by
 have HF:Hid (bQ ((bl s).drop 0)=bQ (bl s)):=rfl
 go_enter Tryz.func94,Tryz.ntmps94
 go_wp2
 go_loop [3,6] (fun _ i=>∃ k:Nat,k≤s.size∧i=O U k∧Hid (bQ ((bl s).drop k)=bQ (bl s))) (fun _ i=>s.size - (intOf i).toNat)
 case atStart=>exact ⟨0,Nat.zero_le _,rfl,HF⟩
 case round =>
  obtain ⟨k,hk,rfl,HR⟩:=hrel
  by_cases hlt:k < s.size
  ·have HD:=Lib.hid (lY hlt)
   have u1:(s[k].toNat:Int)≤255:=by have:=UInt8.toNat_lt s[k]; omega
   cases hp:iF s[k]
   ·rw [hp] at HD
    have HN:Hid (bQ (bl s)=false):=by rw [Hid,← HR.out,HD.out]; rfl
    have hor:(s[k].toNat:Int) < 32 ∨ (32≤(s[k].toNat:Int)∧126 < (s[k].toNat:Int)) ∨ (32≤(s[k].toNat:Int)∧(s[k].toNat:Int)≤126∧(s[k].toNat:Int)=35):=by
     have : ¬ (32≤s[k].toNat∧s[k].toNat≤126∧s[k].toNat ≠ 35):=fun h=>by rw [it.2 h] at hp; cases hp
     omega
    clear hp
    rcases hor with h1 | ⟨h1,h2⟩ | ⟨h1,h2,h3⟩
    ·have d1:decide ((s[k].toNat:Int) < 32)=true:=decide_eq_true h1
     clear h1
     go_wp2
     go_ret
     exact ⟨by rw [HN.out]; rfl,rfl⟩
    ·have d1:decide ((s[k].toNat:Int) < 32)=false:=decide_eq_false (by omega)
     have d2:decide (126 < (s[k].toNat:Int))=true:=decide_eq_true h2
     clear h1 h2
     go_wp2
     go_ret
     exact ⟨by rw [HN.out]; rfl,rfl⟩
    ·have d1:decide ((s[k].toNat:Int) < 32)=false:=decide_eq_false (by omega)
     have d2:decide (126 < (s[k].toNat:Int))=false:=decide_eq_false (by omega)
     have d3:((s[k].toNat:Int) == 35)=true:=by simp [h3]
     clear h1 h2 h3
     go_wp2
     go_ret
     exact ⟨by rw [HN.out]; rfl,rfl⟩
   ·rw [hp] at HD
    rw [it] at hp
    have d1:decide ((s[k].toNat:Int) < 32)=false:=decide_eq_false (by omega)
    have d2:decide (126 < (s[k].toNat:Int))=false:=decide_eq_false (by omega)
    have d3:((s[k].toNat:Int) == 35)=false:=by simp; omega
    clear hp
    go_wp2
    go_round
    case rel=>exact ⟨k+1,by omega,by go_num,by have h:=HR.out; rw [HD.out] at h; exact h⟩
    case measure=>simp [intOf]; omega
  ·have HK:Hid (bQ (bl s)=true):=by
    have h1:=HR.out
    rw [List.drop_eq_nil_of_le (by rw [ap]; omega)] at h1; exact h1.symm
   go_wp2
   go_ret
   exact ⟨by rw [HK.out]; rfl,rfl⟩
def ff (l:List UInt8) (b:UInt8):Bool:=l.contains b
theorem rM {s:ByteArray} {k:Nat} {b:UInt8} (h:k < s.size):ff ((bl s).drop k) b=(decide (s[k]=b) || ff ((bl s).drop (k+1)) b):=by
 unfold ff
 rw [i7 h,List.contains_cons]
 congr 1
 rw [Bool.eq_iff_iff]; simp; exact eq_comm
set_option maxHeartbeats 1000000 in
theorem nv (s:ByteArray) (b:UInt8) (w:World) (hs:s.size≤1000000000) :
  Calls Tryz.prog 84 #[sQ s,.int .u8 b.toNat] w fun e w'=>e=.returned (.bool (ff (bl s) b))∧w=w':=by
 have HF:Hid (ff ((bl s).drop 0) b=ff (bl s) b):=rfl
 go_enter Tryz.func84,Tryz.ntmps84
 go_wp2
 go_loop [5] (fun i=>∃ k:Nat,k≤s.size∧i=O U k∧Hid (ff ((bl s).drop k) b=ff (bl s) b)) (fun i=>s.size - (intOf i).toNat)
 case atStart=>exact ⟨0,Nat.zero_le _,rfl,HF⟩
 case round =>
  obtain ⟨k,hk,rfl,HR⟩:=hrel
  by_cases hlt:k < s.size
  ·have HD:=Lib.hid (rM (b:=b) hlt)
   have hq:=@sr s[k] b
   cases hp:decide (s[k]=b)
   ·rw [hp] at HD hq
    clear hp
    go_wp2
    go_round
    case rel=>exact ⟨k+1,by omega,by go_num,by have h:=HR.out; rw [HD.out] at h; exact h⟩
    case measure=>simp [intOf]; omega
   ·rw [hp] at HD hq
    clear hp
    go_wp2
    go_ret
    exact ⟨by rw [← HR.out,HD.out]; rfl,rfl⟩
  ·have HK:Hid (ff (bl s) b=false):=by
    have h1:=HR.out
    rw [List.drop_eq_nil_of_le (by rw [ap]; omega)] at h1; exact h1.symm
   go_wp2
   go_ret
   exact ⟨by rw [HK.out]; rfl,rfl⟩
structure da where
 c:ByteArray
 r:ByteArray
abbrev da.val (e:da):Value:=.agg #[sQ e.c,sQ e.r]
def da.enc (e:da):List Value:=[sQ e.c,sQ e.r]
theorem da.enc_len (e:da):e.enc.length=2:=rfl
def da.ok (e:da):Bool:=fF (bl e.c) (bl e.r)
theorem da.ok_eq (e:da):e.ok=(decide (1≤e.c.size) && decide (e.c.size≤160) && bQ (bl e.c) && !ff (bl e.c) 64 && bQ (bl e.r) && decide (e.r.size≤200)):=rfl
def nw (s:ByteArray) (m:Int):Bool:=bQ (bl s) && decide ((s.size:Int)≤m)
theorem pB (s:ByteArray) (m:Int) (w:World) (hs:s.size≤1000000000) :
  Calls Tryz.prog 83 #[sQ s,O U m] w fun e w'=>e=.returned (.bool (nw s m))∧w=w':=nu s m w hs
theorem da.ok_spec (e:da):e.ok=(decide (1≤e.c.size) && nw e.c 160 && !ff (bl e.c) 64 && nw e.r 200):=by
 rw [da.ok_eq]
 unfold nw
 have e1:decide ((e.c.size:Int)≤160)=decide (e.c.size≤160):=by rw [Bool.eq_iff_iff]; simp; omega
 have e2:decide ((e.r.size:Int)≤200)=decide (e.r.size≤200):=by rw [Bool.eq_iff_iff]; simp; omega
 rw [e1,e2]
 cases decide (1≤e.c.size) <;> cases decide (e.c.size≤160) <;> cases bQ (bl e.c) <;> cases ff (bl e.c) 64 <;> cases bQ (bl e.r) <;> simp
theorem da.ok_impl (e:da):e.ok=(bI e.c.size 1 160 && decide ((e.r.size:Int)≤200) && bQ (bl e.c) && bQ (bl e.r) && !ff (bl e.c) 64):=by
 rw [da.ok_eq]
 have e1:bI e.c.size 1 160=(decide (1≤e.c.size) && decide (e.c.size≤160)):=by rw [Bool.eq_iff_iff]; simp [bI]; omega
 have e2:decide ((e.r.size:Int)≤200)=decide (e.r.size≤200):=by rw [Bool.eq_iff_iff]; simp; omega
 rw [e1,e2]
 cases decide (1≤e.c.size) <;> cases decide (e.c.size≤160) <;> cases bQ (bl e.c) <;> cases bQ (bl e.r) <;> cases ff (bl e.c) 64 <;> simp
theorem jm (s:ByteArray) (b:UInt8) (w:World):Calls Tryz.prog 95 #[sQ s,sQ ⟨#[b]⟩] w fun e w'=>e=.returned (.bool (ff (bl s) b))∧w=w':=by
 refine (Tryz.strings_Contains_one s b w).mono ?_
 rintro e w' ⟨rfl,rfl⟩
 refine ⟨?_,rfl⟩
 congr 2
 unfold ff
 rw [← m6]
 unfold Lib.contains
 rw [Bool.eq_iff_iff]
 simp only [decide_eq_true_eq]
 have h1:Lib.indexByte (bl s) b=Lib.index (bl s) [b]:=by
  rcases ia (bl s) b with ⟨hn,e⟩ | ⟨hy,e⟩
  ·rw [e]
   rcases h:Lib.indexByte (bl s) b with n | n
   ·exfalso; exact hn (List.mem_of_getElem? (Lib.indexByte_some (o:=n) h).1)
   ·have:=Lib.indexByte_ge (bl s) b; rw [h] at this; omega
  ·rw [e]
   have hge:=Lib.indexByte_ge (bl s) b
   rcases Int.lt_or_le (Lib.indexByte (bl s) b) 0 with hlt | hge0
   ·have:Lib.indexByte (bl s) b = -1:=by omega
    have h2:=Lib.indexByte_none this
    obtain ⟨k,hk,hk2⟩:=List.getElem_of_mem hy
    exact absurd (by rw [List.getElem?_eq_getElem hk,hk2]) (h2 k)
   ·obtain ⟨n,hn⟩:=Int.eq_ofNat_of_zero_le hge0
    obtain ⟨h3,h4⟩:=Lib.indexByte_some hn
    rw [hn]
    have hp:=df hy
    have h5:(bl s)[(dt b (bl s)).length]?=some b:=by
     have:(dt b (bl s)++b :: (bl s).drop ((dt b (bl s)).length+1))[(dt b (bl s)).length]?=some b:=by simp
     rwa [← hp] at this
    rcases Nat.lt_trichotomy n (dt b (bl s)).length with hlt | heq | hgt
    ·exfalso
     have h6:(dt b (bl s))[n]?=some b:=by
      have:(dt b (bl s)++b :: (bl s).drop ((dt b (bl s)).length+1))[n]?=some b:=by rw [← hp]; exact h3
      rwa [List.getElem?_append_left hlt] at this
     exact fH b (bl s) (List.mem_of_getElem? h6)
    ·rw [heq]
    ·exact absurd h5 (h4 _ hgt)
 rw [show s.data.toList=bl s from rfl,h1]
set_option maxHeartbeats 2000000 in
theorem fA (e:da) (w:World) (h1:e.c.size≤1000000000) (h2:e.r.size≤1000000000) :
  Calls Tryz.prog 46 #[e.val] w fun en w'=>en=.returned (.bool e.ok)∧Below w.heap.size w w':=by
 have hb0:=(Below.refl w.heap.size w).alloc (Nat.le_refl _) (.cells #[sQ e.c,sQ e.r] 62)
 have HO:=Lib.hid e.ok_spec
 by_cases h0:1≤e.c.size
 ·have n1:=qQ h0
  have n2:(e.c.toList.isEmpty)=false:=by simpa using n1
  have H0:Hid (decide (1≤e.c.size)=true):=decide_eq_true h0
  clear h0
  go_enter Tryz.func46,Tryz.ntmps46
  go_wp2_with (first | (go_at_call 83; refine (pB _ _ _ (by assumption)).mono ?_; rintro e w' ⟨rfl,rfl⟩) | (go_at_call 84; refine (nv _ 64 _ (by assumption)).mono ?_; rintro e w' ⟨rfl,rfl⟩))
  all_goals (go_ret; exact ⟨by rw [HO.out,H0.out]; simp [*],hb0⟩)
 ·have n1:=qP h0
  have n2:(e.c.toList.isEmpty)=true:=by simp [n1]
  have H0:Hid (decide (1≤e.c.size)=false):=decide_eq_false h0
  clear h0
  go_enter Tryz.func46,Tryz.ntmps46
  go_wp2
  go_ret
  exact ⟨by rw [HO.out,H0.out]; rfl,hb0⟩
set_option maxHeartbeats 2000000 in
theorem ew (e:da) (w:World) (h1:e.c.size≤1000000000) (h2:e.r.size≤1000000000) :
  Calls Tryz.prog 51 #[e.val] w fun en w'=>en=.returned (.bool e.ok)∧Below w.heap.size w w':=by
 have hb0:=(Below.refl w.heap.size w).alloc (Nat.le_refl _) (.cells #[sQ e.c,sQ e.r] 62)
 have HO:=Lib.hid e.ok_impl
 go_enter Tryz.func51,Tryz.ntmps51
 go_wp2_with (first | (go_at_call 75; refine (aI _ _ _ _).mono ?_; rintro e w' ⟨rfl,rfl⟩) | (go_at_call 94; refine (lq _ _ (by assumption)).mono ?_; rintro e w' ⟨rfl,rfl⟩) | (go_at_call 95; refine (jm _ 64 _).mono ?_; rintro e w' ⟨rfl,rfl⟩))
 all_goals (go_ret; refine ⟨?_,hb0⟩; rw [HO.out]; simp [*] <;> omega)
theorem oD {s:ByteArray} {k h:Nat} (hk:k < s.size):fI h ((bl s).drop k)=fI ((41 * h+s[k].toNat+1) % 999979) ((bl s).drop (k+1)):=by rw [i7 hk]; rfl
set_option maxHeartbeats 1000000 in
theorem qR (s:ByteArray) (w:World) (hs:s.size≤1000000000) :
  Calls Tryz.prog 179 #[sQ s] w fun e w'=>e=.returned (O U (ib (bl s)))∧w=w':=by
 have HF:Hid (fI 7 ((bl s).drop 0)=ib (bl s)):=rfl
 go_enter Tryz.func179,Tryz.ntmps179
 go_wp2
 go_loop [3,4] (fun n i=>∃ k h:Nat,k≤s.size∧i=O U k∧n=O U h∧h < 999979∧Hid (fI h ((bl s).drop k)=ib (bl s))) (fun _ i=>s.size - (intOf i).toNat)
 case atStart=>exact ⟨0,7,Nat.zero_le _,rfl,rfl,by omega,HF⟩
 case round =>
  obtain ⟨k,h,hk,rfl,rfl,hh,HR⟩:=hrel
  by_cases hlt:k < s.size
  ·have HD:=Lib.hid (oD (h:=h) hlt)
   have u1:(s[k].toNat:Int)≤255:=by have:=UInt8.toNat_lt s[k]; omega
   have HM:Hid ((41 * (h:Int)+(s[k].toNat:Int)+1) % 999979=(((41 * h+s[k].toNat+1) % 999979:Nat):Int)):=by unfold Hid; omega
   have HB:Hid ((41 * h+s[k].toNat+1) % 999979 < 999979):=Nat.mod_lt _ (by omega)
   have e1:(41 * (h:Int)+(s[k].toNat:Int)+1).tmod 999979=(41 * (h:Int)+(s[k].toNat:Int)+1) % 999979:=Int.tmod_eq_emod_of_nonneg (by omega)
   go_wp2
   go_round
   case rel=>exact ⟨k+1,(41 * h+s[k].toNat+1) % 999979,by omega,by go_num,congrArg _ HM.out,HB.out,by have h1:=HR.out; rw [HD.out] at h1; exact h1⟩
   case measure=>simp [intOf]; omega
  ·have HK:Hid (h=ib (bl s)):=by
    have h1:=HR.out
    rw [List.drop_eq_nil_of_le (by rw [ap]; omega)] at h1; exact h1
   go_wp2
   go_ret
   exact ⟨by rw [← HK.out]; rfl,rfl⟩
set_option maxHeartbeats 1000000 in
theorem nx (s:ByteArray) (w:World) (hs:s.size≤1000000000) :
  Calls Tryz.prog 187 #[sQ s] w fun e w'=>e=.returned (.tuple #[O U (if s.size≤4000 then (ib (bl s):Int) else 0),.bool (decide (s.size≤4000))])∧w=w':=by
 by_cases h4:s.size≤4000
 ·have d4:decide (4000 < (s.size:Int))=false:=decide_eq_false (by omega)
  have HF:Hid (fI 7 ((bl s).drop 0)=ib (bl s)):=rfl
  rw [if_pos h4,decide_eq_true h4]
  have H4:=Lib.hid h4
  go_enter Tryz.func187,Tryz.ntmps187
  go_wp2
  go_loop [4,5,11] (fun n _ i=>∃ k h:Nat,k≤s.size∧i=O U k∧n=O U h∧h < 999979∧Hid (fI h ((bl s).drop k)=ib (bl s))) (fun _ _ i=>s.size - (intOf i).toNat)
  case atStart=>exact ⟨0,7,Nat.zero_le _,rfl,rfl,by omega,HF⟩
  case round =>
   obtain ⟨k,h,hk,rfl,rfl,hh,HR⟩:=hrel
   by_cases hlt:k < s.size
   ·have HD:=Lib.hid (oD (h:=h) hlt)
    have u1:(s[k].toNat:Int)≤255:=by have:=UInt8.toNat_lt s[k]; omega
    have HM:Hid ((41 * (h:Int)+(s[k].toNat:Int)+1) % 999979=(((41 * h+s[k].toNat+1) % 999979:Nat):Int)):=by unfold Hid; omega
    have HB:Hid ((41 * h+s[k].toNat+1) % 999979 < 999979):=Nat.mod_lt _ (by omega)
    have e1:(41 * (h:Int)+(s[k].toNat:Int)+1).tmod 999979=(41 * (h:Int)+(s[k].toNat:Int)+1) % 999979:=Int.tmod_eq_emod_of_nonneg (by omega)
    go_wp2
    go_round
    case rel=>exact ⟨k+1,(41 * h+s[k].toNat+1) % 999979,by omega,by go_num,congrArg _ HM.out,HB.out,by have h1:=HR.out; rw [HD.out] at h1; exact h1⟩
    case measure=>simp [intOf]; omega
   ·have HK:Hid (h=ib (bl s)):=by
     have h1:=HR.out
     rw [List.drop_eq_nil_of_le (by rw [ap]; omega)] at h1; exact h1
    go_wp2
    go_ret2
    exact ⟨by rw [← HK.out]; rfl,rfl⟩
 ·have d4:decide (4000 < (s.size:Int))=true:=decide_eq_true (by omega)
  rw [if_neg h4,decide_eq_false h4]
  clear h4
  go_enter Tryz.func187,Tryz.ntmps187
  go_wp2
  go_ret2
  exact ⟨rfl,rfl⟩
theorem pC {s:ByteArray} {l:List UInt8} (h:bl s=l):Ending.returned (sQ s)=.returned (sQ ⟨l.toArray⟩):=by rw [dd h]
theorem pD (s:ByteArray) (w:World) (hs:s.size≤1000000000) :
  Calls Tryz.prog 144 #[sQ s] w fun e w'=>e=.returned (sQ ⟨(dO (bl s)).toArray⟩)∧Below w.heap.size w w':=by
 have hl:=m8 (bl s)
 have HS:=Lib.hid (fun W=>qR s W hs)
 have HN:=Lib.hid (fun W=>cl (ib (bl s):Int) W (by omega) (by omega))
 have hsz:(⟨(Lib.itoa (ib (bl s):Int)).toArray⟩ : ByteArray).size≤100:=cr (by omega) (by omega)
 obtain ⟨t,ht⟩ : ∃ t:ByteArray,t=⟨(Lib.itoa (ib (bl s):Int)).toArray⟩:=⟨_,rfl⟩
 rw [← ht] at HN hsz
 have HT:Hid (bl t=Lib.itoa (ib (bl s):Int)):=by rw [ht,Hid,bM]
 clear ht
 go_enter Tryz.func144,Tryz.ntmps144
 go_wp2_with (first | (go_at_call 179; refine (HS.out _).mono ?_; rintro e w' ⟨rfl,rfl⟩) | (go_at_call 71; refine (HN.out _).mono ?_; rintro e w1 ⟨rfl,hb1⟩))
 go_ret
 exact ⟨pC (by rw [du,du,HT.out]; unfold dO; simp [kr]),hb1⟩
set_option maxHeartbeats 2000000 in
theorem kV (k:Nat) (e:da) (w:World) (hk:k≤1000) (h1:e.c.size≤1000000) (h2:e.r.size≤1000000) :
  Calls Tryz.prog 90 #[O U k,e.val] w fun en w'=>en=.returned (sQ ⟨(co k (bl e.c) (bl e.r)).toArray⟩)∧Below w.heap.size w w':=by
 have b1:=(Below.refl w.heap.size w).alloc (Nat.le_refl _) (.cells #[sQ e.c,sQ e.r] 62)
 have L1:=ai.new w 62 #[sQ e.c,sQ e.r]
 obtain ⟨t,ht⟩ : ∃ t:ByteArray,t=⟨(Lib.itoa (k:Int)).toArray⟩:=⟨_,rfl⟩
 have hts:t.size≤100:=by rw [ht]; exact cr (by omega) (by omega)
 have HN:Hid (∀ W,Calls Tryz.prog 71 #[O U k] W fun e w'=>e=.returned (sQ t)∧Below W.heap.size W w'):=fun W=>by rw [ht]; exact cl (k:Int) W (by omega) (by omega)
 have HT:Hid (bl t=Lib.itoa (k:Int)):=by rw [ht,Hid,bM]
 clear ht
 obtain ⟨x,hx⟩ : ∃ x:ByteArray,x=t++⟨#[32]⟩++e.c++⟨#[64]⟩++e.r:=⟨_,rfl⟩
 have hxs:x.size≤3000000:=by rw [hx]; simp only [dK]; (have e1:(⟨#[32]⟩ : ByteArray).size=1:=rfl); (have e2:(⟨#[64]⟩ : ByteArray).size=1:=rfl); omega
 obtain ⟨z,hz⟩ : ∃ z:ByteArray,z=⟨(dO (bl x)).toArray⟩:=⟨_,rfl⟩
 have hzs:z.size≤4000000:=by rw [← ap,hz,bM]; have:=jC (bl x); rw [ap] at this; omega
 have HSl:Hid (∀ W,Calls Tryz.prog 144 #[sQ (t++⟨#[32]⟩++e.c++⟨#[64]⟩++e.r)] W fun e w'=>e=.returned (sQ z)∧Below W.heap.size W w'):=fun W=>by rw [hz,← hx]; exact pD x W (by omega)
 have HF:Hid (bl (z++⟨#[10]⟩)=co k (bl e.c) (bl e.r)):=by
  rw [Hid,du,hz,bM,hx]
  unfold co eW
  simp [du,kr,HT.out]
 clear hz hx
 have z1:(⟨#[32]⟩ : ByteArray).size=1:=rfl
 have z2:(⟨#[64]⟩ : ByteArray).size=1:=rfl
 have z3:(⟨#[10]⟩ : ByteArray).size=1:=rfl
 go_enter Tryz.func90,Tryz.ntmps90
 go_wp2_with fail
 generalize w.alloc (.cells #[sQ e.c,sQ e.r] 62)=W at b1 L1 ⊢
 generalize hg:w.heap.size=g at L1 ⊢
 have c0:∀ p:ao W.heap.size W,p.val.cell? ⟨g,0,none⟩=some (sQ e.c):=fun p=>(p.cell L1.lt).trans (L1.cell 0)
 have c1:∀ p:ao W.heap.size W,p.val.cell? ⟨g,1,none⟩=some (sQ e.r):=fun p=>(p.cell L1.lt).trans (L1.cell 1)
 clear L1
 refine au (by kernel_rfl) (by kernel_rfl) ?_
 repeat (any_goals (first | go_big_quiet_step ((first | (go_at_call 71; refine aK (Nat.le_refl _) (HN.out _)) | (go_at_call 144; refine aK (Nat.le_refl _) (HSl.out _)))) | (refine wpQuiet_step (fun K hK=>?_); go_simp; split <;> (refine hK _ ?_; clear hK K))))
 all_goals (refine wpQuiet_nil ?_; rintro _ ⟨q1,rfl⟩)
 go_wp2
 go_ret
 exact ⟨pC HF.out,by rw [← hg] at *; exact ar b1 q1.below⟩
def fg (s:ByteArray):Bool:=decide (s.size≤4000) && !ff (bl s) 35 && decide ((dO (bl s)).length≤4000)
def gK (s:ByteArray):ByteArray:=if fg s then ⟨(dO (bl s)).toArray⟩ else ⟨#[]⟩
set_option maxHeartbeats 2000000 in
theorem gh (s:ByteArray) (w:World) (hs:s.size≤1000000000) (ht:hU w) :
  Calls Tryz.prog 158 #[sQ s] w fun e w'=>e=.returned (.tuple #[sQ (gK s),.bool (fg s)])∧Below w.heap.size w w':=by
 have HC:=Lib.hid (fun W=>nx s W hs)
 by_cases h4:s.size≤4000
 ·rw [if_pos h4,decide_eq_true h4] at HC
  have HSt:=Lib.hid (jm s 35)
  cases hh:ff (bl s) 35
  ·rw [hh] at HSt
   have hl:=m8 (bl s)
   obtain ⟨t,htt⟩ : ∃ t:ByteArray,t=⟨(Lib.itoa (ib (bl s):Int)).toArray⟩:=⟨_,rfl⟩
   have hts:t.size≤100:=by rw [htt]; exact cr (by omega) (by omega)
   have HN:Hid (∀ W,hU W→Calls Tryz.prog 69 #[O U (ib (bl s):Int)] W fun e w'=>e=.returned (sQ t)∧Below W.heap.size W w'):=fun W hW=>by rw [htt]; exact cu _ W (by omega) (by omega) hW
   have HT:Hid (bl t=Lib.itoa (ib (bl s):Int)):=by rw [htt,Hid,bM]
   clear htt
   have z1:(⟨#[35]⟩ : ByteArray).size=1:=rfl
   have HFin:Hid (bl (s++⟨#[35]⟩++t)=dO (bl s)):=by
    rw [Hid,du,du,HT.out]; unfold dO; simp [kr]
   have HLn:Hid ((s++⟨#[35]⟩++t).size=(dO (bl s)).length):=by rw [Hid,← ap,HFin.out]
   have HZ:Hid ((s++⟨#[35]⟩++t).size=s.size+1+t.size):=by rw [Hid,dK,dK]; rfl
   have HA:Hid (fg s=decide ((dO (bl s)).length≤4000)):=by unfold fg Hid; rw [hh,decide_eq_true h4]; rfl
   clear hh h4
   by_cases h5:s.size+1+t.size≤4000
   ·have HA2:Hid (fg s=true):=by rw [Hid,HA.out,← HLn.out,HZ.out]; exact decide_eq_true h5
    have HA3:Hid (gK s=s++⟨#[35]⟩++t):=by unfold gK Hid; rw [HA2.out,if_pos rfl]; exact (dd HFin.out).symm
    have d5:decide ((4000:Int) < (s.size:Int)+1+(t.size:Int))=false:=decide_eq_false (by omega)
    go_enter Tryz.func158,Tryz.ntmps158
    go_wp2_with (first | (go_at_call 187; refine (HC.out _).mono ?_; rintro e w' ⟨rfl,rfl⟩) | (go_at_call 95; refine (HSt.out _).mono ?_; rintro e w' ⟨rfl,rfl⟩) | (go_at_call 69; refine (HN.out _ (by assumption)).mono ?_; rintro e w1 ⟨rfl,hb1⟩))
    go_ret2
    exact ⟨by rw [HA2.out,HA3.out]; rfl,hb1⟩
   ·have HA2:Hid (fg s=false):=by rw [Hid,HA.out,← HLn.out,HZ.out]; exact decide_eq_false h5
    have HA3:Hid (gK s=⟨#[]⟩):=by unfold gK Hid; rw [HA2.out]; rfl
    have d5:decide ((4000:Int) < (s.size:Int)+1+(t.size:Int))=true:=decide_eq_true (by omega)
    go_enter Tryz.func158,Tryz.ntmps158
    go_wp2_with (first | (go_at_call 187; refine (HC.out _).mono ?_; rintro e w' ⟨rfl,rfl⟩) | (go_at_call 95; refine (HSt.out _).mono ?_; rintro e w' ⟨rfl,rfl⟩) | (go_at_call 69; refine (HN.out _ (by assumption)).mono ?_; rintro e w1 ⟨rfl,hb1⟩))
    go_ret2
    exact ⟨by rw [HA2.out,HA3.out]; rfl,hb1⟩
  ·rw [hh] at HSt
   have HA2:Hid (fg s=false):=by unfold fg Hid; rw [hh]; simp
   have HA3:Hid (gK s=⟨#[]⟩):=by unfold gK Hid; rw [HA2.out]; rfl
   clear hh h4
   go_enter Tryz.func158,Tryz.ntmps158
   go_wp2_with (first | (go_at_call 187; refine (HC.out _).mono ?_; rintro e w' ⟨rfl,rfl⟩) | (go_at_call 95; refine (HSt.out _).mono ?_; rintro e w' ⟨rfl,rfl⟩))
   go_ret2
   exact ⟨by rw [HA2.out,HA3.out]; rfl,Below.refl _ _⟩
 ·rw [if_neg h4,decide_eq_false h4] at HC
  have HA2:Hid (fg s=false):=by unfold fg Hid; rw [decide_eq_false h4]; rfl
  have HA3:Hid (gK s=⟨#[]⟩):=by unfold gK Hid; rw [HA2.out]; rfl
  clear h4
  go_enter Tryz.func158,Tryz.ntmps158
  go_wp2_with (first | (go_at_call 187; refine (HC.out _).mono ?_; rintro e w' ⟨rfl,rfl⟩))
  go_ret2
  exact ⟨by rw [HA2.out,HA3.out]; rfl,Below.refl _ _⟩
theorem js {l:List UInt8} {b:UInt8} : ff l b=false ↔ b ∉ l:=by unfold ff; simp
theorem mQ {l:List UInt8} {b:UInt8} : ff l b=true ↔ b ∈ l:=by unfold ff; simp
theorem gS {s:ByteArray} : fg s=true ↔ s.size≤4000∧(35:UInt8) ∉ bl s∧(dO (bl s)).length≤4000:=by
 unfold fg; simp [Bool.and_eq_true,js,and_assoc]
set_option maxHeartbeats 2000000 in
theorem ks (k:Nat) (e:da) (w:World) (hk:k≤1000) (hok:e.ok=true) (ht:hU w) :
  Calls Tryz.prog 100 #[O U k,e.val] w fun en w'=>en=.returned (sQ ⟨(co k (bl e.c) (bl e.r)).toArray⟩)∧Below w.heap.size w w':=by
 have b1:=(Below.refl w.heap.size w).alloc (Nat.le_refl _) (.cells #[sQ e.c,sQ e.r] 62)
 have L1:=ai.new w 62 #[sQ e.c,sQ e.r]
 have ht1:=ht.then b1
 obtain ⟨_,h1,_,_,_,h2⟩:=cP.1 hok
 rw [ap] at h1 h2
 obtain ⟨t,htt⟩ : ∃ t:ByteArray,t=⟨(Lib.itoa (k:Int)).toArray⟩:=⟨_,rfl⟩
 have hts:t.size≤100:=by rw [htt]; exact cr (by omega) (by omega)
 have HN:Hid (∀ W,hU W→Calls Tryz.prog 69 #[O U k] W fun e w'=>e=.returned (sQ t)∧Below W.heap.size W w'):=fun W hW=>by rw [htt]; exact cu (k:Int) W (by omega) (by omega) hW
 have HT:Hid (bl t=Lib.itoa (k:Int)):=by rw [htt,Hid,bM]
 clear htt
 obtain ⟨x,hx⟩ : ∃ x:ByteArray,x=t++⟨#[32]⟩++e.c++⟨#[64]⟩++e.r:=⟨_,rfl⟩
 have hxt:bl x=eW k (bl e.c) (bl e.r):=by rw [hx]; unfold eW; simp [du,kr,HT.out]
 have hao:fg x=true:=by
  rw [gS,hxt]
  have h3:=lv (k:=k) hok (by omega)
  have h4:=jC (eW k (bl e.c) (bl e.r))
  exact ⟨by rw [← ap,hxt]; omega,fU hok,by omega⟩
 obtain ⟨z,hz⟩ : ∃ z:ByteArray,z=⟨(dO (bl x)).toArray⟩:=⟨_,rfl⟩
 have hzs:z.size≤4000:=by rw [← ap,hz,bM]; exact (gS.1 hao).2.2
 have hxs:x.size≤4000:=(gS.1 hao).1
 have HSl:Hid (∀ W,hU W→Calls Tryz.prog 158 #[sQ (t++⟨#[32]⟩++e.c++⟨#[64]⟩++e.r)] W fun e w'=>e=.returned (.tuple #[sQ z,.bool true])∧Below W.heap.size W w'):=fun W hW=>by
  have:=gh x W (by omega) hW
  rw [show gK x=z by unfold gK; rw [hao,if_pos rfl,hz],hao] at this
  rw [← hx]; exact this
 have HF:Hid (bl (z++⟨#[10]⟩)=co k (bl e.c) (bl e.r)):=by
  rw [Hid,du,hz,bM,hxt]
  unfold co; simp [kr]
 clear hz hx hxt hao hok
 have z1:(⟨#[32]⟩ : ByteArray).size=1:=rfl
 have z2:(⟨#[64]⟩ : ByteArray).size=1:=rfl
 have z3:(⟨#[10]⟩ : ByteArray).size=1:=rfl
 go_enter Tryz.func100,Tryz.ntmps100
 go_wp2_with fail
 generalize w.alloc (.cells #[sQ e.c,sQ e.r] 62)=W at b1 L1 ht1 ⊢
 generalize hg:w.heap.size=g at L1 ⊢
 have c0:∀ p:ao W.heap.size W,p.val.cell? ⟨g,0,none⟩=some (sQ e.c):=fun p=>(p.cell L1.lt).trans (L1.cell 0)
 have c1:∀ p:ao W.heap.size W,p.val.cell? ⟨g,1,none⟩=some (sQ e.r):=fun p=>(p.cell L1.lt).trans (L1.cell 1)
 clear L1
 refine au (by kernel_rfl) (by kernel_rfl) ?_
 repeat (any_goals (first | go_big_quiet_step ((first | (go_at_call 69; refine aK (Nat.le_refl _) (HN.out _ (ht1.at _))) | (go_at_call 158; refine aK (Nat.le_refl _) (HSl.out _ (ht1.at _))))) | (refine wpQuiet_step (fun K hK=>?_); go_simp; split <;> (refine hK _ ?_; clear hK K))))
 all_goals (refine wpQuiet_nil ?_; rintro _ ⟨q1,rfl⟩)
 go_wp2
 go_ret
 exact ⟨pC HF.out,by rw [← hg] at *; exact ar b1 q1.below⟩
open Classical in
noncomputable def jV (s:List UInt8):Option (List UInt8):=if h:∃ t,nJ t s then some h.choose else none
theorem mR {t s:List UInt8} (h:nJ t s):jV s=some t:=by
 have hex:∃ t,nJ t s:=⟨t,h⟩
 unfold jV
 rw [dif_pos hex]
 exact congrArg some (hex.choose_spec.inj h)
theorem ku {s:List UInt8} (h:∀ t,¬ nJ t s):jV s=none:=by unfold jV; rw [dif_neg (fun ⟨t,ht⟩=>h t ht)]
theorem rO {t s:List UInt8} (h:jV s=some t):nJ t s:=by
 by_cases hex:∃ t,nJ t s
 ·unfold jV at h
  rw [dif_pos hex] at h
  have:=hex.choose_spec
  rw [Option.some.inj h] at this
  exact this
 ·unfold jV at h
  rw [dif_neg hex] at h; cases h
theorem oE {t s:List UInt8} (h:nJ t s):Lib.lastIndex s [35]=t.length:=by rw [← h.2.1]; exact qD t
theorem rP {t s:List UInt8} (h:nJ t s):s.take t.length=t:=by rw [← h.2.1]; unfold dO; exact List.take_left' rfl
def sj:Option (List UInt8)→ByteArray
 | some t=>⟨t.toArray⟩
 | none=>⟨#[]⟩
theorem jW (a b:ByteArray):(a.toList == b.toList)=decide (bl a=bl b):=by
 rw [sK,sK,Bool.eq_iff_iff]; simp
set_option maxHeartbeats 2000000 in
theorem pE (s:ByteArray) (w:World) (hs:s.size≤1000000000) (ht:hU w) :
  Calls Tryz.prog 169 #[sQ s] w fun e w'=>e=.returned (.tuple #[sQ (sj (jV (bl s))),.bool (jV (bl s)).isSome])∧Below w.heap.size w w':=by
 have HL:Hid (∀ W,Calls Tryz.prog 194 #[sQ s,sQ ⟨#[35]⟩] W fun e w'=>e=.returned (O U (Lib.lastIndex (bl s) [35]))∧w'=W):=fun W=>Tryz.strings_LastIndex s ⟨#[35]⟩ (by omega) W
 rcases nN (bl s) 35 with h1 | ⟨i,h1,h2,h3⟩
 ·have HV:Hid (jV (bl s)=none):=ku fun t hv=>by have:=oE hv; omega
  rw [h1] at HL
  clear h1
  go_enter Tryz.func169,Tryz.ntmps169
  go_wp2_with (go_at_call 194; refine (HL.out _).mono ?_; rintro e w' ⟨rfl,rfl⟩)
  go_ret2
  exact ⟨by rw [HV.out]; rfl,Below.refl _ _⟩
 ·rw [h1] at HL
  have hi:i < s.size:=h2
  obtain ⟨t,htt⟩ : ∃ t:ByteArray,t=s.extract 0 i:=⟨_,rfl⟩
  have hbt:bl t=(bl s).take i:=by rw [htt,bE]; simp
  have HC:Hid (∀ W,hU W→Calls Tryz.prog 158 #[sQ (s.extract 0 i)] W fun e w'=>e=.returned (.tuple #[sQ (gK t),.bool (fg t)])∧Below W.heap.size W w'):=fun W hW=>by
   rw [← htt]; exact gh t W (by rw [← ap,hbt,List.length_take,ap]; omega) hW
  have HVer:Hid (∀ t',nJ t' (bl s)→t'=bl t∧fg t=true∧gK t=s):=fun t' hv=>by
   have e1:=oE hv
   have e2:t'.length=i:=by omega
   have e3:=rP hv
   rw [e2,← hbt] at e3
   subst e3
   have e4:fg t=true:=gS.2 ⟨by rw [← ap]; exact hv.2.2.1,hv.1,by rw [hv.2.1]; exact hv.2.2.2⟩
   refine ⟨rfl,e4, ?_⟩
   unfold gK
   rw [e4,if_pos rfl,hv.2.1]
   exact (dd rfl).symm
  have HGet:Hid (fg t=true→bl (gK t)=bl s→nJ (bl t) (bl s)):=fun h5 h6=>by
   obtain ⟨a1,a2,a3⟩:=gS.1 h5
   have a4:bl (gK t)=dO (bl t):=by unfold gK; rw [h5,if_pos rfl,bM]
   exact ⟨a2,by rw [← a4]; exact h6,by rw [ap]; exact a1,by rw [← h6,a4]; exact a3⟩
  clear h1 h2 h3
  cases hok:fg t
  ·have HV:Hid (jV (bl s)=none):=ku fun t' hv=>by have:=(HVer.out t' hv).2.1; rw [hok] at this; cases this
   rw [hok] at HC
   clear hok HVer HGet htt hbt
   go_enter Tryz.func169,Tryz.ntmps169
   go_wp2_with (first | (go_at_call 194; refine (HL.out _).mono ?_; rintro e w' ⟨rfl,rfl⟩) | (go_at_call 158; refine (HC.out _ (by assumption)).mono ?_; rintro e w1 ⟨rfl,hb1⟩))
   go_ret2
   exact ⟨by rw [HV.out]; rfl,hb1⟩
  ·rw [hok] at HC
   have hne:=jW (gK t) s
   by_cases heq:bl (gK t)=bl s
   ·have HV:Hid (jV (bl s)=some (bl t)):=mR (HGet.out hok heq)
    have HT:Hid (sj (some (bl t))=s.extract 0 i):=by unfold sj Hid; rw [← htt]; exact (dd rfl).symm
    rw [decide_eq_true heq] at hne
    clear hok HVer HGet htt hbt heq
    generalize gK t=at' at HC hne
    go_enter Tryz.func169,Tryz.ntmps169
    go_wp2_with (first | (go_at_call 194; refine (HL.out _).mono ?_; rintro e w' ⟨rfl,rfl⟩) | (go_at_call 158; refine (HC.out _ (by assumption)).mono ?_; rintro e w1 ⟨rfl,hb1⟩))
    go_ret2
    exact ⟨by rw [HV.out,HT.out]; rfl,hb1⟩
   ·have HV:Hid (jV (bl s)=none):=ku fun t' hv=>by have:=(HVer.out t' hv).2.2; exact heq (by rw [this])
    rw [decide_eq_false heq] at hne
    clear hok HVer HGet htt hbt heq
    generalize gK t=at' at HC hne
    go_enter Tryz.func169,Tryz.ntmps169
    go_wp2_with (first | (go_at_call 194; refine (HL.out _).mono ?_; rintro e w' ⟨rfl,rfl⟩) | (go_at_call 158; refine (HC.out _ (by assumption)).mono ?_; rintro e w1 ⟨rfl,hb1⟩))
    go_ret2
    exact ⟨by rw [HV.out]; rfl,hb1⟩
theorem lZ (l:List UInt8) (b:UInt8):(b ∉ l∧Lib.indexByte l b = -1) ∨ (b ∈ l∧Lib.indexByte l b=(dt b l).length):=by
 induction l with
 | nil=>exact .inl ⟨by simp,rfl⟩
 | cons x l ih =>
  unfold Lib.indexByte dt
  by_cases h:x=b
  ·subst h; exact .inr ⟨by simp,by simp⟩
  ·have h' : (x == b)=false:=by simp [h]
   rw [if_neg (by simp [h]),if_neg h]
   rcases ih with ⟨h1,h2⟩ | ⟨h1,h2⟩
   ·exact .inl ⟨by simp only [List.mem_cons,not_or]; exact ⟨Ne.symm h,h1⟩,by rw [h2]; rfl⟩
   ·refine .inr ⟨by simp [h1], ?_⟩
    rw [h2,if_neg (by simp)]; simp
def aR (s:ByteArray) (b:UInt8):ByteArray:=⟨(dt b (bl s)).toArray⟩
def aY (s:ByteArray) (b:UInt8):ByteArray:=⟨((bl s).drop ((dt b (bl s)).length+1)).toArray⟩
set_option maxHeartbeats 1000000 in
theorem pF (s:ByteArray) (b:UInt8) (w:World) (hs:s.size≤1000000000) :
  Calls Tryz.prog 196 #[sQ s,sQ ⟨#[b]⟩] w fun e w'=>e=.returned (.tuple #[sQ (aR s b),sQ (aY s b),.bool (ff (bl s) b)])∧Below w.heap.size w w':=by
 have HI:=Lib.hid (fun W=>Tryz.stringslite_Index_one s b W)
 have hb:=jB b (bl s)
 rw [ap] at hb
 rcases lZ (bl s) b with ⟨h1,h2⟩ | ⟨h1,h2⟩
 ·rw [show s.data.toList=bl s from rfl,h2] at HI
  have HL:Hid (aR s b=s):=by unfold aR Hid; rw [jA h1]; exact (dd rfl).symm
  have HR:Hid (aY s b=⟨#[]⟩):=by unfold aY Hid; rw [jA h1,List.drop_eq_nil_of_le (by omega)]
  have HF:Hid (ff (bl s) b=false):=js.2 h1
  clear h1 h2
  go_enter Tryz.func196,Tryz.ntmps196
  go_wp2_with (go_at_call 180; refine (HI.out _).mono ?_; rintro e w' ⟨rfl,rfl⟩)
  go_ret3
  exact ⟨by rw [HL.out,HR.out,HF.out]; rfl,Below.refl _ _⟩
 ·rw [show s.data.toList=bl s from rfl,h2] at HI
  have hp:=congrArg List.length (df h1)
  rw [ap] at hp
  simp only [List.length_append,List.length_cons,List.length_drop,ap] at hp
  have HF:Hid (ff (bl s) b=true):=mQ.2 h1
  obtain ⟨n,hn⟩ : ∃ n,n=(dt b (bl s)).length:=⟨_,rfl⟩
  have HL:Hid (aR s b=s.extract 0 n):=by
   unfold aR Hid; refine (dd ?_).symm
   rw [bE,hn,lB]; simp
  have HR:Hid (aY s b=s.extract (n+1) s.size):=by
   unfold aY Hid; refine (dd ?_).symm
   rw [bE,hn,List.take_of_length_le (by rw [ap]; omega)]
  rw [← hn] at HI hp hb
  have z1:(⟨#[b]⟩ : ByteArray).size=1:=rfl
  have hn1:n+1≤s.size:=by omega
  have i0:(0:Int)≤(n:Int):=by omega
  have i1:(n:Int)≤(s.size:Int):=by omega
  have i2:(n:Int)+1≤(s.size:Int):=by omega
  have i3:IntKind.i64.wrap ((n:Int)+1)=(n:Int)+1:=IntWalk.i64_in _ (by omega)
  clear hn hp h1 h2
  go_enter Tryz.func196,Tryz.ntmps196
  go_wp2_with (go_at_call 180; refine (HI.out _).mono ?_; rintro e w' ⟨rfl,rfl⟩)
  refine au (by kernel_rfl) (by kernel_rfl) ?_
  repeat (any_goals (first | go_big_quiet_step ((fail)) | (refine wpQuiet_step (fun K hK=>?_); go_simp; split <;> (refine hK _ ?_; clear hK K))))
  all_goals (refine wpQuiet_nil ?_; rintro _ ⟨q1,rfl⟩)
  go_wp2
  go_ret3
  exact ⟨by rw [HL.out,HR.out,HF.out]; rfl,q1.below⟩
theorem ny (s:ByteArray) (b:UInt8) (w:World) (hs:s.size≤1000000000) :
  Calls Tryz.prog 171 #[sQ s,sQ ⟨#[b]⟩] w fun e w'=>e=.returned (.tuple #[sQ (aR s b),sQ (aY s b),.bool (ff (bl s) b)])∧Below w.heap.size w w':=by
 have HC:=Lib.hid (fun W=>pF s b W hs)
 go_enter Tryz.func171,Tryz.ntmps171
 go_wp2_with (go_at_call 196; refine (HC.out _).mono ?_; rintro e w1 ⟨rfl,hb1⟩)
 go_ret3
 exact ⟨rfl,hb1⟩
def sG (k:Nat) (s:ByteArray) (a b:ByteArray) (ok:Bool):Prop:=(ok=true∧dx k (bl s)=some (bl a,bl b)) ∨ (ok=false∧dx k (bl s)=none)
def l0 (k:Nat) (s:ByteArray) (w:World) (e:Ending) (w' : World):Prop:=∃ a b ok,e=.returned (.tuple #[.agg #[sQ a,sQ b],.bool ok])∧sG k s a b ok∧Below w.heap.size w w'
theorem oF {p t:List UInt8} (h:p <+: t):t=p++t.drop p.length:=by
 obtain ⟨u,rfl⟩:=h; simp
set_option maxRecDepth 100000 in
set_option maxHeartbeats 4000000 in
theorem kv (k:Nat) (s:ByteArray) (w:World) (hk:k≤1000) (hs:s.size≤3000000) (ht:hU w) :
  Calls Tryz.prog 123 #[O U k,sQ s] w (l0 k s w):=by
 have b1:=(Below.refl w.heap.size w).alloc (Nat.le_refl _) (.cells #[sQ ⟨#[]⟩,sQ ⟨#[]⟩] 62)
 have L1:=ai.new w 62 #[sQ ⟨#[]⟩,sQ ⟨#[]⟩]
 have ht1:=ht.then b1
 have hk9:k≤9223372036854775807:=by omega
 obtain ⟨t,htt⟩ : ∃ t:ByteArray,t=⟨(Lib.itoa (k:Int)).toArray⟩:=⟨_,rfl⟩
 have hts:t.size≤100:=by rw [htt]; exact cr (by omega) (by omega)
 have HN:Hid (∀ W,hU W→Calls Tryz.prog 69 #[O U k] W fun e w'=>e=.returned (sQ t)∧Below W.heap.size W w'):=fun W hW=>by rw [htt]; exact cu (k:Int) W (by omega) (by omega) hW
 have HT:Hid (bl t=Lib.itoa (k:Int)):=by rw [htt,Hid,bM]
 have HPre:Hid (bl (t++⟨#[32]⟩)=Lib.itoa (k:Int)++[32]):=by rw [Hid,du,HT.out]; rfl
 clear htt
 have z1:(⟨#[32]⟩ : ByteArray).size=1:=rfl
 have HV:=Lib.hid (fun W hW=>pE s W (by omega) hW)
 cases hv:jV (bl s) with
 | none =>
  rw [hv] at HV
  have HD:Hid (dx k (bl s)=none):=pc hk9 fun u hu=>by rw [mR hu] at hv; cases hv
  have HCP:Hid (∀ W,Calls Tryz.prog 170 #[sQ ⟨#[]⟩,sQ (t++⟨#[32]⟩)] W fun e w'=>e=.returned (.tuple #[sQ ⟨#[]⟩,.bool false])∧w'=W):=fun W=>by
   have h1:=Tryz.strings_CutPrefix ⟨#[]⟩ (t++⟨#[32]⟩) W
   have h2:Lib.hasPrefix (⟨#[]⟩ : ByteArray).data.toList (t++⟨#[32]⟩ : ByteArray).data.toList=false:=by
    unfold Lib.hasPrefix
    have:(t++⟨#[32]⟩ : ByteArray).data.toList=Lib.itoa (k:Int)++[32]:=HPre.out
    rw [this]
    cases Lib.itoa (k:Int) <;> rfl
   unfold Lib.trimPrefix at h1
   rw [h2] at h1
   exact h1
  have HCt:=Lib.hid (fun W=>ny ⟨#[]⟩ 64 W (by decide))
  have e1:aR ⟨#[]⟩ 64=⟨#[]⟩:=rfl
  have e2:aY ⟨#[]⟩ 64=⟨#[]⟩:=rfl
  have e3:ff (bl ⟨#[]⟩) 64=false:=rfl
  rw [e1,e2,e3] at HCt
  clear e1 e2 e3 hv
  go_enter Tryz.func123,Tryz.ntmps123
  go_wp2_with fail
  generalize w.alloc (.cells #[sQ ⟨#[]⟩,sQ ⟨#[]⟩] 62)=W at b1 L1 ht1 ⊢
  generalize hg:w.heap.size=g at L1 ⊢
  refine (HV.out _ ht1).mono ?_
  rintro e w2 ⟨rfl,hb2⟩
  have ht2:=ht1.then hb2
  go_wp2_with (first | (go_at_call 69; refine (HN.out _ ht2).mono ?_; rintro e w3 ⟨rfl,hb3⟩) | (go_at_call 170; refine (HCP.out _).mono ?_; rintro e w4 ⟨rfl,rfl⟩))
  refine (HCt.out _).mono ?_
  rintro e w5 ⟨rfl,hb5⟩
  have hb15:=ar (ar hb2 hb3) hb5
  have L5:=L1.below hb15 L1.lt
  have c0:=L5.cell 0
  have c1:=L5.cell 1
  have f0:=L5.frozen 0
  have f1:=L5.frozen 1
  have hgl:=L5.lt
  simp only [List.getElem?_cons_zero,List.getElem?_cons_succ] at c0 c1
  clear L1 L5
  go_wp2_with fail
  refine bodyPost_ret (v:=.tuple #[.agg #[sQ ⟨#[]⟩,sQ ⟨#[]⟩],.bool false]) (by simp [results,Tryz.results123,go_sem, *]) rfl ⟨⟨#[]⟩,⟨#[]⟩,false,rfl,.inr ⟨rfl,HD.out⟩, ?_⟩
  rw [← hg] at *
  exact (ar b1 hb15).trans (by repeat (first | exact Below.refl _ _ | refine Below.alloc ?_ (by simp; have:=b1.size; have:=hb15.size; omega) _ | refine Below.setCell ?_ (by simp) _))
 | some u0 =>
  obtain ⟨u,rfl⟩ : ∃ u:ByteArray,u0=bl u:=⟨⟨u0.toArray⟩,(bM u0).symm⟩
  have hver:=rO hv
  have hul:u.size≤4000:=hver.2.2.1
  rw [hv] at HV
  have HO:Hid (sj (some (bl u))=u):=(dd rfl).symm
  rw [HO.out] at HV
  have hcp:∀ W,Calls Tryz.prog 170 #[sQ u,sQ (t++⟨#[32]⟩)] W fun e w'=>e=.returned (.tuple #[sQ ⟨(Lib.trimPrefix (bl u) (Lib.itoa (k:Int)++[32])).toArray⟩,.bool (Lib.hasPrefix (bl u) (Lib.itoa (k:Int)++[32]))])∧w'=W:=fun W=>by
   rw [← HPre.out]; exact Tryz.strings_CutPrefix u (t++⟨#[32]⟩) W
  by_cases hp:(Lib.itoa (k:Int)++[32]) <+: bl u
  ·have hpt:Lib.hasPrefix (bl u) (Lib.itoa (k:Int)++[32])=true:=List.isPrefixOf_iff_prefix.2 hp
   have hsplit:=oF hp
   obtain ⟨u',hu'⟩ : ∃ u' : ByteArray,u'=⟨((bl u).drop (Lib.itoa (k:Int)++[32]).length).toArray⟩:=⟨_,rfl⟩
   have hbu:bl u'=(bl u).drop (Lib.itoa (k:Int)++[32]).length:=by rw [hu',bM]
   rw [← hbu] at hsplit
   have HCP:Hid (∀ W,Calls Tryz.prog 170 #[sQ u,sQ (t++⟨#[32]⟩)] W fun e w'=>e=.returned (.tuple #[sQ u',.bool true])∧w'=W):=fun W=>by
    have:=hcp W
    unfold Lib.trimPrefix at this
    rw [hpt,if_pos rfl,← hu'] at this; exact this
   have hu4:u'.size≤4000:=by rw [← ap,hbu,List.length_drop,ap]; omega
   have HCt:=Lib.hid (fun W=>ny u' 64 W (by omega))
   have hcl:(aR u' 64).size≤4000:=by unfold aR; rw [← ap,bM]; have:=jB 64 (bl u'); rw [ap] at this; omega
   have hcr:(aY u' 64).size≤4000:=by unfold aY; rw [← ap,bM,List.length_drop,ap]; omega
   cases hat:ff (bl u') 64
   ·have HD:Hid (dx k (bl s)=none):=qE hk9 hver hsplit (js.1 hat)
    rw [hat] at HCt
    clear hv hver hcp hp hpt hsplit hu' hbu hat
    go_enter Tryz.func123,Tryz.ntmps123
    go_wp2_with fail
    generalize w.alloc (.cells #[sQ ⟨#[]⟩,sQ ⟨#[]⟩] 62)=W at b1 L1 ht1 ⊢
    generalize hg:w.heap.size=g at L1 ⊢
    refine (HV.out _ ht1).mono ?_
    rintro e w2 ⟨rfl,hb2⟩
    have ht2:=ht1.then hb2
    go_wp2_with (first | (go_at_call 69; refine (HN.out _ ht2).mono ?_; rintro e w3 ⟨rfl,hb3⟩) | (go_at_call 170; refine (HCP.out _).mono ?_; rintro e w4 ⟨rfl,rfl⟩))
    refine (HCt.out _).mono ?_
    rintro e w5 ⟨rfl,hb5⟩
    have hb15:=ar (ar hb2 hb3) hb5
    have L5:=L1.below hb15 L1.lt
    have c0:=L5.cell 0
    have c1:=L5.cell 1
    have f0:=L5.frozen 0
    have f1:=L5.frozen 1
    have hgl:=L5.lt
    simp only [List.getElem?_cons_zero,List.getElem?_cons_succ] at c0 c1
    clear L1 L5
    go_wp2_with fail
    refine bodyPost_ret (v:=.tuple #[.agg #[sQ ⟨#[]⟩,sQ ⟨#[]⟩],.bool false]) (by simp [results,Tryz.results123,go_sem, *]) rfl ⟨⟨#[]⟩,⟨#[]⟩,false,rfl,.inr ⟨rfl,HD.out⟩, ?_⟩
    rw [← hg] at *
    exact (ar b1 hb15).trans (by repeat (first | exact Below.refl _ _ | refine Below.alloc ?_ (by simp; have:=b1.size; have:=hb15.size; omega) _ | refine Below.setCell ?_ (by simp) _))
   ·have hdec:=nQ (c:=bl (aR u' 64)) (r:=bl (aY u' 64)) hk9 hver (by
     rw [hsplit]; congr 1
     unfold aR aY; rw [bM,bM]; exact df (mQ.1 hat)) (by unfold aR; rw [bM]; exact fH 64 _)
    rw [hat] at HCt
    cases hok:da.ok ⟨aR u' 64,aY u' 64⟩
    ·have HD:Hid (dx k (bl s)=none):=by
      rw [Hid,hdec,if_neg (fun h=>by rw [show da.ok ⟨aR u' 64,aY u' 64⟩=fF (bl (aR u' 64)) (bl (aY u' 64)) from rfl,h] at hok; cases hok)]
     have HOK:=Lib.hid hok
     clear hv hver hcp hp hpt hsplit hu' hbu hat hdec hok
     go_enter Tryz.func123,Tryz.ntmps123
     go_wp2_with fail
     generalize w.alloc (.cells #[sQ ⟨#[]⟩,sQ ⟨#[]⟩] 62)=W at b1 L1 ht1 ⊢
     generalize hg:w.heap.size=g at L1 ⊢
     refine (HV.out _ ht1).mono ?_
     rintro e w2 ⟨rfl,hb2⟩
     have ht2:=ht1.then hb2
     go_wp2_with (first | (go_at_call 69; refine (HN.out _ ht2).mono ?_; rintro e w3 ⟨rfl,hb3⟩) | (go_at_call 170; refine (HCP.out _).mono ?_; rintro e w4 ⟨rfl,rfl⟩))
     refine (HCt.out _).mono ?_
     rintro e w5 ⟨rfl,hb5⟩
     have hb15:=ar (ar hb2 hb3) hb5
     have L5:=L1.below hb15 L1.lt
     go_wp2_with fail
     have L6:=L5.alloc (.cells #[sQ (aR u' 64),sQ (aY u' 64)] 62)
     have N6:=ai.new w5 62 #[sQ (aR u' 64),sQ (aY u' 64)]
     have b6:=(Below.refl w5.heap.size w5).alloc (Nat.le_refl _) (.cells #[sQ (aR u' 64),sQ (aY u' 64)] 62)
     generalize w5.alloc (.cells #[sQ (aR u' 64),sQ (aY u' 64)] 62)=W6 at L6 N6 b6 ⊢
     generalize hg5:w5.heap.size=g5 at N6 ⊢
     refine (ew ⟨aR u' 64,aY u' 64⟩ _ (by simp only; omega) (by simp only; omega)).mono ?_
     rw [HOK.out]
     rintro e w7 ⟨rfl,hb7⟩
     have L7:=L6.below hb7 L6.lt
     have N7:=N6.below hb7 N6.lt
     have c0:=L7.cell 0
     have c1:=L7.cell 1
     have f0:=L7.frozen 0
     have f1:=L7.frozen 1
     have d0:=N7.cell 0
     have d1:=N7.cell 1
     have hgl:=L7.lt
     simp only [List.getElem?_cons_zero,List.getElem?_cons_succ] at c0 c1 d0 d1
     have hgB:w.heap.size≤g:=by omega
     have hall:Below w.heap.size w w7:=ar (ar b1 hb15) (ar (by rw [← hg5] at *; exact b6) hb7)
     clear L1 L5 L6 L7 N6 N7
     go_wp2_with fail
     refine bodyPost_ret (v:=.tuple #[.agg #[sQ ⟨#[]⟩,sQ ⟨#[]⟩],.bool false]) (by simp [results,Tryz.results123,go_sem, *]) rfl ⟨⟨#[]⟩,⟨#[]⟩,false,rfl,.inr ⟨rfl,HD.out⟩, ?_⟩
     exact hall.trans (by repeat (first | exact Below.refl _ _ | refine Below.setCell ?_ (by simp only; exact hgB) _))
    ·have HD:Hid (dx k (bl s)=some (bl (aR u' 64),bl (aY u' 64))):=by
      rw [Hid,hdec,if_pos (by exact hok)]
     have HOK:=Lib.hid hok
     clear hv hver hcp hp hpt hsplit hu' hbu hat hdec hok
     go_enter Tryz.func123,Tryz.ntmps123
     go_wp2_with fail
     generalize w.alloc (.cells #[sQ ⟨#[]⟩,sQ ⟨#[]⟩] 62)=W at b1 L1 ht1 ⊢
     generalize hg:w.heap.size=g at L1 ⊢
     refine (HV.out _ ht1).mono ?_
     rintro e w2 ⟨rfl,hb2⟩
     have ht2:=ht1.then hb2
     go_wp2_with (first | (go_at_call 69; refine (HN.out _ ht2).mono ?_; rintro e w3 ⟨rfl,hb3⟩) | (go_at_call 170; refine (HCP.out _).mono ?_; rintro e w4 ⟨rfl,rfl⟩))
     refine (HCt.out _).mono ?_
     rintro e w5 ⟨rfl,hb5⟩
     have hb15:=ar (ar hb2 hb3) hb5
     have L5:=L1.below hb15 L1.lt
     go_wp2_with fail
     have L6:=L5.alloc (.cells #[sQ (aR u' 64),sQ (aY u' 64)] 62)
     have N6:=ai.new w5 62 #[sQ (aR u' 64),sQ (aY u' 64)]
     have b6:=(Below.refl w5.heap.size w5).alloc (Nat.le_refl _) (.cells #[sQ (aR u' 64),sQ (aY u' 64)] 62)
     generalize w5.alloc (.cells #[sQ (aR u' 64),sQ (aY u' 64)] 62)=W6 at L6 N6 b6 ⊢
     generalize hg5:w5.heap.size=g5 at N6 ⊢
     refine (ew ⟨aR u' 64,aY u' 64⟩ _ (by simp only; omega) (by simp only; omega)).mono ?_
     rw [HOK.out]
     rintro e w7 ⟨rfl,hb7⟩
     have L7:=L6.below hb7 L6.lt
     have N7:=N6.below hb7 N6.lt
     have c0:=L7.cell 0
     have c1:=L7.cell 1
     have f0:=L7.frozen 0
     have f1:=L7.frozen 1
     have d0:=N7.cell 0
     have d1:=N7.cell 1
     have hgl:=L7.lt
     simp only [List.getElem?_cons_zero,List.getElem?_cons_succ] at c0 c1 d0 d1
     have hgB:w.heap.size≤g:=by omega
     have hall:Below w.heap.size w w7:=ar (ar b1 hb15) (ar (by rw [← hg5] at *; exact b6) hb7)
     clear L1 L5 L6 L7 N6 N7
     go_wp2_with fail
     refine bodyPost_ret (v:=.tuple #[.agg #[sQ (aR u' 64),sQ (aY u' 64)],.bool true]) (by simp [results,Tryz.results123,go_sem, *]) rfl ⟨aR u' 64,aY u' 64,true,rfl,.inl ⟨rfl,HD.out⟩, ?_⟩
     exact hall.trans (by repeat (first | exact Below.refl _ _ | refine Below.setCell ?_ (by simp only; exact hgB) _))
  ·have hpf:Lib.hasPrefix (bl u) (Lib.itoa (k:Int)++[32])=false:=by
    rcases h:Lib.hasPrefix (bl u) (Lib.itoa (k:Int)++[32]) with _ | _
    ·rfl
    ·exact absurd (List.isPrefixOf_iff_prefix.1 h) hp
   have HD:Hid (dx k (bl s)=none):=pd hk9 hver hp
   have HCP:Hid (∀ W,Calls Tryz.prog 170 #[sQ u,sQ (t++⟨#[32]⟩)] W fun e w'=>e=.returned (.tuple #[sQ u,.bool false])∧w'=W):=fun W=>by
    have:=hcp W
    unfold Lib.trimPrefix at this
    rw [hpf] at this
    simp only [Bool.false_eq_true,if_false] at this
    rwa [show (⟨(bl u).toArray⟩ : ByteArray)=u from (dd rfl).symm] at this
   have HCt:=Lib.hid (fun W=>ny u 64 W (by omega))
   generalize ff (bl u) 64=hb at HCt
   clear hv hver hcp hp hpf
   go_enter Tryz.func123,Tryz.ntmps123
   go_wp2_with fail
   generalize w.alloc (.cells #[sQ ⟨#[]⟩,sQ ⟨#[]⟩] 62)=W at b1 L1 ht1 ⊢
   generalize hg:w.heap.size=g at L1 ⊢
   refine (HV.out _ ht1).mono ?_
   rintro e w2 ⟨rfl,hb2⟩
   have ht2:=ht1.then hb2
   go_wp2_with (first | (go_at_call 69; refine (HN.out _ ht2).mono ?_; rintro e w3 ⟨rfl,hb3⟩) | (go_at_call 170; refine (HCP.out _).mono ?_; rintro e w4 ⟨rfl,rfl⟩))
   refine (HCt.out _).mono ?_
   rintro e w5 ⟨rfl,hb5⟩
   have hb15:=ar (ar hb2 hb3) hb5
   have L5:=L1.below hb15 L1.lt
   have c0:=L5.cell 0
   have c1:=L5.cell 1
   have f0:=L5.frozen 0
   have f1:=L5.frozen 1
   have hgl:=L5.lt
   simp only [List.getElem?_cons_zero,List.getElem?_cons_succ] at c0 c1
   clear L1 L5
   go_wp2_with fail
   refine bodyPost_ret (v:=.tuple #[.agg #[sQ ⟨#[]⟩,sQ ⟨#[]⟩],.bool false]) (by simp [results,Tryz.results123,go_sem, *]) rfl ⟨⟨#[]⟩,⟨#[]⟩,false,rfl,.inr ⟨rfl,HD.out⟩, ?_⟩
   rw [← hg] at *
   exact (ar b1 hb15).trans (by repeat (first | exact Below.refl _ _ | refine Below.alloc ?_ (by simp; have:=b1.size; have:=hb15.size; omega) _ | refine Below.setCell ?_ (by simp) _))
theorem qn:(Tryz.prog.info? 62).map (fun i=>(i.zero,i.size,i.bytes))=some (some (.agg #[sQ ⟨#[]⟩,sQ ⟨#[]⟩]),2,32):=by kernel_rfl
def ed (l:List ((List UInt8 × List UInt8) × Nat)) (m:List da):Prop:=m.map (fun r=>(bl r.c,bl r.r))=l.map (·.1)
theorem jt {l:List ((List UInt8 × List UInt8) × Nat)} {m:List da} (h:ed l m):m.length=l.length:=by
 have:=congrArg List.length h; simpa using this
def qS (l:List Nat):List Value:=l.map fun (n:Nat)=>Value.int .i64 (n:Int)
def gU (s:ByteArray) (w:World) (e:Ending) (w' : World):Prop:=∃ A c A' c' m,e=.returned (.tuple #[F A m.length c,F A' (m.length+1) c'])∧ed (aT 60 0 (bl s)) m ∧
 w'.ownsRow w.heap.size 62 2 (F A m.length c) m.length (m.flatMap da.enc)∧w'.ownsRow w.heap.size 3 1 (F A' (m.length+1) c') (m.length+1) (qS (di 0 (aT 60 0 (bl s))))∧Below w.heap.size w w'
set_option maxRecDepth 100000 in
set_option maxHeartbeats 8000000 in
theorem iz (s:ByteArray) (w:World) (hs:s.size≤3000000) (ht:hU w) :
  Calls Tryz.prog 68 #[sQ s] w (gU s w):=by
 have b0:=(Below.refl w.heap.size w).alloc (Nat.le_refl _) (.cells #[O U 0] 3)
 have L0:=ai.new w 3 #[O U 0]
 have E0:Hid ((w.alloc (.cells #[O U 0] 3)).ownsRow w.heap.size 3 1 (F (some ⟨w.heap.size,0,none⟩) 1 1) 1 (qS (di 0 []))):=L0.own (Nat.le_refl _) (by simp) (by unfold maxLen; omega)
 have hne:62 ≠ 3:=by decide
 go_enter Tryz.func68,Tryz.ntmps68
 go_wp2
 have HZ:Hid (aT 60 0 (bl s) = []++aT (60 - 0) 0 ((bl s).drop 0)):=rfl
 go_loopw [4,5,6,7,8,9] (fun r en at' _ _ _ wr=>∃ (a:Nat) (A:Option Addr) (c:Nat) (A' : Option Addr) (c' : Nat) (m:List da) (acc:List ((List UInt8 × List UInt8) × Nat)),m.length≤60∧a≤s.size∧r=F A m.length c∧en=F A' (m.length+1) c'∧at'=O U a∧(∃ q:ao w.heap.size w,wr=q.val) ∧
  Hid (ed acc m)∧Hid (dy acc=a)∧Hid (aT 60 0 (bl s)=acc++aT (60 - m.length) m.length ((bl s).drop a))∧Hid (wr.ownsRow w.heap.size 62 2 (F A m.length c) m.length (m.flatMap da.enc))∧Hid (wr.ownsRow w.heap.size 3 1 (F A' (m.length+1) c') (m.length+1) (qS (di 0 acc)))) (fun r _ _ _ _ _ _=>60 - lenOf r)
 case atStart=>exact ⟨0,none,0,some ⟨w.heap.size,0,none⟩,1,[],[],by simp,Nat.zero_le _,rfl,rfl,rfl,⟨⟨_,b0⟩,rfl⟩,rfl,rfl,HZ,World.ownsRow_nil _ _ _ _,E0⟩
 case round =>
  obtain ⟨a,A,c,A',c',m,acc,hm,ha,rfl,rfl,rfl,⟨q,rfl⟩,HA,HL,HF,HR,HE⟩:=hrel
  have DONE:aT (60 - m.length) m.length ((bl s).drop a) = []→∀ W',Below q.val.heap.size q.val W'→gU s w (.returned (.tuple #[F A m.length c,F A' (m.length+1) c'])) W':=fun h W' hb=>by
   have h1:=HF.out
   rw [h,List.append_nil] at h1
   exact ⟨A,c,A',c',m,rfl,by rw [h1]; exact HA.out,ab HR.out hb,by rw [h1]; exact ab HE.out hb,(q.go (Nat.le_refl _) hb).below⟩
  by_cases hlt:m.length < 60
  ·obtain ⟨n,hn⟩ : ∃ n,60 - m.length=n+1:=⟨59 - m.length,by omega⟩
   obtain ⟨x,hx⟩ : ∃ x:ByteArray,x=s.extract a s.size:=⟨_,rfl⟩
   have hbx:bl x=(bl s).drop a:=by rw [hx,bE,List.take_of_length_le (by rw [ap]; exact Nat.le_refl _)]
   have HI:Hid (∀ W,Calls Tryz.prog 122 #[sQ (s.extract a s.size),.int .u8 10] W fun e w'=>e=.returned (O U (Lib.indexByte (bl x) 10))∧w'=W):=fun W=>by rw [← hx]; exact Tryz.strings_IndexByte x 10 W
   rw [hn] at DONE HF
   rw [← hbx] at DONE HF
   have i1:(a:Int)≤(s.size:Int):=by omega
   rcases lZ (bl x) 10 with ⟨h1,h2⟩ | ⟨h1,h2⟩
   ·rw [h2] at HI
    have HD:=Lib.hid (DONE (dU h1) _ (Below.refl _ _))
    clear DONE h1 h2 hx hbx hn
    go_wp2_with (go_at_call 122; refine (HI.out _).mono ?_; rintro e w' ⟨rfl,rfl⟩)
    go_ret2
    exact HD.out
   ·rw [h2] at HI
    have hp:=congrArg List.length (df h1)
    have hxs:(bl x).length=s.size - a:=by rw [hbx,List.length_drop,ap]
    simp only [List.length_append,List.length_cons,List.length_drop,hxs] at hp
    have hparts:=df h1
    obtain ⟨d,hd⟩ : ∃ d,d=(dt 10 (bl x)).length:=⟨_,rfl⟩
    rw [← hd] at HI hp
    have hda:a+d+1≤s.size:=by omega
    obtain ⟨y,hy⟩ : ∃ y:ByteArray,y=s.extract a (a+d):=⟨_,rfl⟩
    have hby:bl y=dt 10 (bl x):=by
     rw [hy,bE,List.drop_take,Nat.add_sub_cancel_left,← hbx,hd,lB]
    have hys:y.size≤3000000:=by rw [← ap,hby,← hd]; omega
    have HDc:Hid (∀ W,hU W→Calls Tryz.prog 123 #[O U (m.length:Int),sQ (s.extract a (a+d))] W (l0 m.length y W)):=fun W hW=>by
     rw [← hy]; exact kv m.length y W (by omega) hys hW
    have HBad:Hid (dx m.length (bl y)=none→∀ W',Below q.val.heap.size q.val W'→gU s w (.returned (.tuple #[F A m.length c,F A' (m.length+1) c'])) W'):=fun h=>DONE (ee (by rw [← hby]; exact h))
    have HGood:Hid (∀ ra rb,dx m.length (bl y)=some (ra,rb)→aT 60 0 (bl s)=(acc++[((ra,rb),d+1)])++aT (60 - (m.length+1)) (m.length+1) ((bl s).drop (a+(d+1)))):=fun ra rb h=>by
     have e1:=dz (n:=n) h1 (by rw [← hby]; exact h)
     have e2:60 - (m.length+1)=n:=by omega
     rw [HF.out,e1,e2,← hd,hbx,List.drop_drop]
     simp
    have i2:(0:Int)≤(d:Int):=by omega
    have i3:(a:Int)+(d:Int)≤(s.size:Int):=by omega
    have i4:(a:Int)+((d:Int)+1)≤(s.size:Int):=by omega
    have htq:=ht.at q
    clear DONE h1 h2 hx hbx hn hp hxs hparts hd hy hby
    go_wp2_with (go_at_call 122; refine (HI.out _).mono ?_; rintro e w' ⟨rfl,rfl⟩)
    refine (HDc.out _ htq).mono ?_
    rintro e w3 ⟨ra,rb,ok,rfl,hdec,hb3⟩
    cases ok
    ·have HD:=Lib.hid (HBad.out (by rcases hdec with ⟨h,_⟩ | ⟨_,h⟩; cases h; exact h) _ (hb3.alloc hb3.size (.cells #[sQ ra,sQ rb] 62)))
     clear hdec
     go_wp2_with fail
     go_ret2
     exact HD.out
    ·have hdec' : dx m.length (bl y)=some (bl ra,bl rb):=by rcases hdec with ⟨_,h⟩ | ⟨h,_⟩; exact h; cases h
     have HF2:=Lib.hid (HGood.out _ _ hdec')
     clear hdec hdec'
     have b4:=hb3.alloc hb3.size (.cells #[sQ ra,sQ rb] 62)
     have HR4:=Lib.hid (ab HR.out b4)
     have HE4:=Lib.hid (ab HE.out b4)
     have hqs:=q.size
     have hsz4:w.heap.size≤(w3.alloc (.cells #[sQ ra,sQ rb] 62)).heap.size:=Nat.le_trans hqs b4.size
     go_wp2_with (first
      | (at_builtin; refine bU (w0:=w3.alloc (.cells #[sQ ra,sQ rb] 62)) rfl (.tmp 38) (.tmp 40) 58 rfl 62 _ 2 32 Tryz.underlying58 qn rfl (by omega) (by omega) w.heap.size _ _ _ rfl HR4 #[sQ ra,sQ rb] 1 _ rfl (by first | rfl | simp | exact Array.size_push _) rfl (by simp [Value.oneCell']) (by omega) hsz4 rfl rfl rfl rfl ?_; intro v5 w5 HO5 hg5 hb5; have HE5:=Lib.hid (dX HE4.out HR4.out hne hg5); have hsz5:w.heap.size≤w5.heap.size:=Nat.le_trans hsz4 hg5.size)
      | (at_builtin; refine bU (w0:=w5) rfl (.tmp 42) (.tmp 44) 100 rfl 3 (O U 0) 1 8 Tryz.underlying100 gF rfl (by omega) (by omega) w.heap.size _ _ _ rfl HE5 #[O U ((a:Int)+((d:Int)+1))] 1 _ rfl (by first | rfl | simp | exact Array.size_push _) rfl (by simp [Value.oneCell']) (by omega) hsz5 rfl rfl rfl rfl ?_; intro v6 w6 HO6 hg6 hb6))
     have HR6:=Lib.hid (dX HO5.out HE5.out hne.symm hg6)
     obtain ⟨A5,c5,hv5⟩:=aw HO5.out
     subst hv5
     obtain ⟨A6,c6,hv6⟩:=aw HO6.out
     subst hv6
     go_roundw
     case rel =>
      refine ⟨a+(d+1),A5,c5,A6,c6,m++[⟨ra,rb⟩],acc++[((bl ra,bl rb),d+1)],by simp; omega,by omega,by simp,by simp,by go_num,⟨((q.go (Nat.le_refl _) b4).go' hb5).go' hb6,rfl⟩, ?_, ?_, ?_, ?_, ?_⟩
      ·have h1:=HA.out; unfold ed at h1; unfold ed Hid; simp [h1]
      ·have h1:=HL.out; unfold Hid; rw [← h1]; simp [dy]
      ·have h1:=HF2.out; rw [Hid]; simpa using h1
      ·have h1:=HR6.out; rw [Hid]; simpa [da.enc] using h1
      ·have h1:=HO6.out; rw [Hid,lF,HL.out]; simpa [qS] using h1
     case measure=>simp [lenOf]; omega
  ·have HD:Hid (gU s w (.returned (.tuple #[F A m.length c,F A' (m.length+1) c'])) q.val):=DONE (by rw [show 60 - m.length=0 by omega]; rfl) _ (Below.refl _ _)
   clear DONE
   go_wp2
   go_ret2
   exact HD.out
structure Lg where
 D:ByteArray
 P:ByteArray
 n:Int
abbrev Lg.val (l:Lg):Value:=.agg #[sQ l.D,sQ l.P,O U l.n]
noncomputable def Lg.ok (l:Lg):Bool:=qb (bl l.D) (bl l.P) l.n
def Lg.all (l:Lg):List UInt8:=bl l.D++bl l.P
theorem dQ {α:Type} {l:List α} {j:Nat} (h:j < l.length) (d:α):l.getD j d=l[j]:=by rw [List.getD_eq_getElem?_getD,List.getElem?_eq_getElem h]; rfl
theorem pG {W:World} {B n:Nat} {A:Option Addr} {c:Nat} {l:List Nat} (h:W.ownsRow B 3 1 (F A n c) n (qS l)) (hn:n=l.length) (h0:0 < n) :
  ∃ g,A=some ⟨g,0,none⟩∧B≤g∧g < W.heap.size∧∀ j,j < n→W.cell? ⟨g,j,none⟩=some (O U ((l.getD j 0:Nat):Int)):=by
 obtain ⟨g,hA⟩ : ∃ g,A=some ⟨g,0,none⟩:=by
  obtain ⟨_,h0' | ⟨g,cap,cur,hv,_⟩⟩:=h
  ·have:=h0'.2; omega
  ·injection hv with e1 e2 e3; exact ⟨g,e1⟩
 subst hA
 refine ⟨g,rfl,(h.lt g rfl).1,(h.lt g rfl).2,fun j hj=>?_⟩
 rw [h.cellAt j (by omega)]
 unfold qS
 rw [List.getElem?_map,List.getElem?_eq_getElem (by omega),dQ (by omega)]
 rfl
theorem mB {W:World} {g c:Nat} {l:List Nat} {x:Nat} {n:Nat} (hn:n=l.length) (hb:n≤9223372036854775807) (h:∀ j,j < n→W.cell? ⟨g,j,none⟩=some (O U ((l.getD j 0:Nat):Int))) :
  Calls Tryz.prog 78 #[F (some ⟨g,0,none⟩) n c,O U (x:Int)] W fun e w'=>e=.returned (.bool (decide (x ∈ l)))∧w'=W:=by
 have h1:=Tryz.slices_Contains_int g 0 n c (l.map fun (y:Nat)=>(y:Int)) x W (by simp; omega) hb (fun j hj=>by
  simp only [List.length_map] at hj
  rw [Nat.zero_add,h j (by omega),dQ hj,dQ (by simpa using hj)]
  simp)
 have h2:((l.map fun (y:Nat)=>(y:Int)).take n).contains (x:Int)=decide (x ∈ l):=by
  rw [List.take_of_length_le (by simp; omega),Bool.eq_iff_iff]
  simp only [List.contains_eq_mem,decide_eq_true_eq,List.mem_map]
  exact ⟨fun ⟨a,ha,e⟩=>by rw [← Int.ofNat.inj e]; exact ha,fun h=>⟨x,h,rfl⟩⟩
 rw [h2] at h1
 exact h1
set_option maxRecDepth 100000 in
set_option maxHeartbeats 4000000 in
theorem gV (l:Lg) (w:World) (hs:l.D.size+l.P.size≤2000000) (ht:hU w) :
  Calls Tryz.prog 42 #[l.val] w fun e w'=>e=.returned (.bool l.ok)∧Below w.heap.size w w':=by
 have b1:=(Below.refl w.heap.size w).alloc (Nat.le_refl _) (.cells #[sQ l.D,sQ l.P,O U l.n] 27)
 have L1:=ai.new w 27 #[sQ l.D,sQ l.P,O U l.n]
 have ht1:=ht.then b1
 have hbl:bl (l.D++l.P)=bl l.D++bl l.P:=du _ _
 have hz:(l.D++l.P).size=l.D.size+l.P.size:=dK _ _
 have HRd:=Lib.hid (fun W hW=>iz (l.D++l.P) W (by omega) hW)
 have hok:=@pf (bl l.D) (bl l.P) l.n
 have hlen:=dh 60 0 (bl (l.D++l.P))
 have hroom:=ic 60 0 (bl (l.D++l.P))
 have hlast:=lG 0 (aT 60 0 (bl (l.D++l.P)))
 have hel:=ie 0 (aT 60 0 (bl (l.D++l.P)))
 rw [← hbl] at hok
 rw [ap] at hroom
 rw [ap,ap] at hok
 rw [Nat.zero_add] at hlast
 obtain ⟨rs,hrs⟩ : ∃ rs,rs=aT 60 0 (bl (l.D++l.P)):=⟨_,rfl⟩
 obtain ⟨en,hen⟩ : ∃ en,en=di 0 (aT 60 0 (bl (l.D++l.P))):=⟨_,rfl⟩
 have HRd2:Hid (∀ W,hU W→Calls Tryz.prog 68 #[sQ (l.D++l.P)] W fun e w'=>∃ A c A' c' k g,k=rs.length∧A'=some ⟨g,0,none⟩∧e=.returned (.tuple #[F A k c,F A' (k+1) c'])∧(∀ j,j < k+1→w'.cell? ⟨g,j,none⟩=some (O U ((en.getD j 0:Nat):Int)))∧Below W.heap.size W w'):=fun W hW=>by
  refine (HRd.out W hW).mono ?_
  rintro e w' ⟨A,c,A',c',m,rfl,hm,_,hO,hb⟩
  have hml:=jt hm
  obtain ⟨g,hA,_,_,hc⟩:=pG hO (by rw [ie,hml]) (by omega)
  exact ⟨A,c,A',c',m.length,g,by rw [hml,hrs],hA,rfl,by rw [hen]; exact hc,hb⟩
 clear HRd
 rw [← hen] at hlast hel hok
 rw [← hrs] at hlen hroom hlast hel hok
 obtain ⟨k0,hk0⟩ : ∃ k0,k0=rs.length:=⟨_,rfl⟩
 rw [← hk0] at hlen hlast hel hok HRd2
 obtain ⟨z,hzz⟩ : ∃ z,z=dy rs:=⟨_,rfl⟩
 rw [← hzz] at hroom hlast hok
 have hlast' : en.getD k0 0=z:=by rw [List.getD_eq_getElem?_getD,hlast]; rfl
 have HCt:Hid (∀ (W:World) (g c:Nat),(∀ j,j < k0+1→W.cell? ⟨g,j,none⟩=some (O U ((en.getD j 0:Nat):Int)))→Calls Tryz.prog 78 #[F (some ⟨g,0,none⟩) (k0+1) c,O U (l.D.size:Int)] W fun e w'=>e=.returned (.bool (decide (l.D.size ∈ en)))∧w'=W):=fun W g c h=>mB (by omega) (by omega) h
 have HOK:Hid (l.ok=(decide (z=l.D.size+l.P.size) && decide (l.D.size ∈ en) && decide (l.n=(k0:Int)))):=by
  unfold Hid Lg.ok
  rw [Bool.eq_iff_iff,hok]
  simp [and_assoc]
 clear hok hlast hbl hrs hen hk0 hzz
 generalize decide (l.D.size ∈ en)=dc at HCt HOK
 go_enter Tryz.func42,Tryz.ntmps42
 go_wp2_with fail
 generalize w.alloc (.cells #[sQ l.D,sQ l.P,O U l.n] 27)=W at b1 L1 ht1 ⊢
 generalize hg:w.heap.size=g at L1 ⊢
 refine (HRd2.out _ ht1).mono ?_
 rintro e w2 ⟨A,c,A',c',k,g',rfl,rfl,rfl,hc',hb2⟩
 have L2:=L1.below hb2 L1.lt
 have c0:=L2.cell 0
 have c1:=L2.cell 1
 have c2:=L2.cell 2
 simp only [List.getElem?_cons_zero,List.getElem?_cons_succ] at c0 c1 c2
 have HC2:=Lib.hid (HCt.out w2 g' c' hc')
 have hl:=hc' k (by omega)
 rw [hlast'] at hl
 have hbb:Below w.heap.size w w2:=by rw [← hg] at *; exact ar b1 hb2
 clear L1 L2 hc' HCt HRd2
 by_cases e1:z=l.D.size+l.P.size
 ·rw [decide_eq_true e1] at HOK
  have d1:((z:Int) == (l.D.size:Int)+(l.P.size:Int))=true:=by rw [e1]; simp
  cases dc
  ·clear e1
   go_wp2_with (go_at_call 78; refine (HC2.out).mono ?_; rintro e w' ⟨rfl,rfl⟩)
   go_ret
   exact ⟨by rw [HOK.out]; rfl,hbb⟩
  ·by_cases e3:l.n=(k:Int)
   ·rw [decide_eq_true e3] at HOK
    have d3:(l.n == (k:Int))=true:=by rw [e3]; simp
    clear e1 e3
    go_wp2_with (go_at_call 78; refine (HC2.out).mono ?_; rintro e w' ⟨rfl,rfl⟩)
    go_ret
    exact ⟨by rw [HOK.out]; rfl,hbb⟩
   ·rw [decide_eq_false e3] at HOK
    have d3:(l.n == (k:Int))=false:=by simp [e3]
    clear e1 e3
    go_wp2_with (go_at_call 78; refine (HC2.out).mono ?_; rintro e w' ⟨rfl,rfl⟩)
    go_ret
    exact ⟨by rw [HOK.out]; rfl,hbb⟩
 ·rw [decide_eq_false e1] at HOK
  have d1:((z:Int) == (l.D.size:Int)+(l.P.size:Int))=false:=by simp; omega
  clear e1
  go_wp2_with fail
  go_ret
  exact ⟨by rw [HOK.out]; rfl,hbb⟩
def dC (ps:List (List UInt8)):List Value:=ps.map fun p=>Value.string ⟨p.toArray⟩
theorem qT (ps:List (List UInt8)):(dC ps).length=ps.length * 1:=by simp [dC]
theorem oG:(Tryz.prog.info? 9).map (fun i=>(i.zero,i.size,i.bytes))=some (some (sQ ⟨#[]⟩),1,16):=by kernel_rfl
theorem pH {s:ByteArray} {f i:Nat} {b:UInt8} (hfi:f≤i) (hi:i < s.size) :
  cp b (((bl s).take i).drop f) ((bl s).drop i)=if s[i]=b then ((bl s).take i).drop f :: cp b (((bl s).take (i+1)).drop (i+1)) ((bl s).drop (i+1)) else cp b (((bl s).take (i+1)).drop f) ((bl s).drop (i+1)):=by
 rw [i7 hi,cp]
 have e1:((bl s).take (i+1)).drop (i+1) = []:=List.drop_eq_nil_of_le (by rw [List.length_take]; omega)
 have e2:((bl s).take (i+1)).drop f=((bl s).take i).drop f++[s[i]]:=by
  rw [si hi,List.drop_append_of_le_length (by rw [List.length_take,ap]; omega)]
 rw [e1,e2]
set_option maxRecDepth 100000 in
set_option maxHeartbeats 4000000 in
theorem gG (s:ByteArray) (b:UInt8) (w:World) (hs:s.size≤100000000) :
  Calls Tryz.prog 58 #[sQ s,.int .u8 b.toNat] w fun e w'=>∃ A c,e=.returned (F A (aG b (bl s)).length c)∧w'.ownsRow w.heap.size 9 1 (F A (aG b (bl s)).length c) (aG b (bl s)).length (dC (aG b (bl s)))∧Below w.heap.size w w':=by
 have b0:=(Below.refl w.heap.size w).alloc (Nat.le_refl _) (.cells #[] 9)
 have O0:Hid ((w.alloc (.cells #[] 9)).ownsRow w.heap.size 9 1 (F (some ⟨w.heap.size,0,none⟩) 0 0) 0 (dC [])):=cz (ai.new w 9 #[]) (Nat.le_refl _)
 have HPL:Hid (∀ l cur:List UInt8,(cp b cur l).length≤l.length+1):=fi b
 go_enter Tryz.func58,Tryz.ntmps58
 go_wp2
 go_loopw [5,6,7] (fun o fr i wr=>∃ (f k:Nat) (A:Option Addr) (c:Nat) (ps:List (List UInt8)),f≤k∧k≤s.size∧ps.length≤k∧o=F A ps.length c∧fr=O U f∧i=O U k∧(∃ q:ao w.heap.size w,wr=q.val) ∧
  Hid (aG b (bl s)=ps++cp b (((bl s).take k).drop f) ((bl s).drop k))∧Hid (wr.ownsRow w.heap.size 9 1 (F A ps.length c) ps.length (dC ps))) (fun _ _ i _=>s.size - (intOf i).toNat)
 case atStart=>exact ⟨0,0,some ⟨w.heap.size,0,none⟩,0,[],Nat.le_refl _,Nat.zero_le _,by simp,rfl,rfl,rfl,⟨⟨_,b0⟩,rfl⟩,rfl,O0⟩
 case round =>
  obtain ⟨f,k,A,c,ps,hfk,hk,hps,rfl,rfl,rfl,⟨q,rfl⟩,HF,HR⟩:=hrel
  have hqs:=q.size
  by_cases hlt:k < s.size
  ·have HST:=Lib.hid (pH (b:=b) hfk hlt)
   have hq:=@sr s[k] b
   have i1:(f:Int)≤(k:Int):=by omega
   have i2:(k:Int)≤(s.size:Int):=by omega
   by_cases heq:s[k]=b
   ·rw [if_pos heq] at HST
    rw [decide_eq_true heq] at hq
    have HB:Hid (bl (s.extract f k)=((bl s).take k).drop f):=bE _ _ _
    clear heq
    go_wp2_with (at_builtin; refine bU (w0:=q.val) rfl (.tmp 20) (.tmp 25) 49 rfl 9 (sQ ⟨#[]⟩) 1 16 Tryz.underlying49 oG rfl (by omega) (by omega) w.heap.size _ _ _ rfl HR #[sQ (s.extract f k)] 1 _ rfl (by first | rfl | simp | exact Array.size_push _) rfl (by simp [Value.oneCell']) (by omega) hqs rfl rfl rfl rfl ?_; intro v5 w5 HO5 hg5 hb5)
    obtain ⟨A5,c5,hv5⟩:=aw HO5.out
    subst hv5
    go_roundw
    case rel =>
     refine ⟨k+1,k+1,A5,c5,ps++[((bl s).take k).drop f],Nat.le_refl _,by omega,by simp; omega,by simp,by go_num,by go_num,⟨q.go' hb5,rfl⟩, ?_, ?_⟩
     ·have h1:=HF.out; rw [HST.out] at h1; rw [Hid,h1]; simp
     ·have h1:=HO5.out; rw [Hid]
      have h2:dC (ps++[((bl s).take k).drop f])=dC ps++[Value.string (s.extract f k)]:=by unfold dC; rw [List.map_append,← HB.out]; simp [← dd rfl]
      rw [h2]; simpa using h1
    case measure=>simp [intOf]; omega
   ·rw [if_neg heq] at HST
    rw [decide_eq_false heq] at hq
    clear heq
    go_wp2
    go_roundw
    case rel=>exact ⟨f,k+1,A,c,ps,by omega,by omega,by omega,rfl,rfl,by go_num,⟨q,rfl⟩,by have h1:=HF.out; rw [HST.out] at h1; exact h1,HR⟩
    case measure=>simp [intOf]; omega
  ·obtain rfl:k=s.size:=by omega
   have i1:(f:Int)≤(s.size:Int):=by omega
   have HB:Hid (bl (s.extract f s.size)=((bl s).take s.size).drop f):=bE _ _ _
   have HF2:Hid (aG b (bl s)=ps++[((bl s).take s.size).drop f]):=by
    have h1:=HF.out
    have e0:(bl s).drop s.size = []:=List.drop_eq_nil_of_le (by rw [ap]; exact Nat.le_refl _)
    rw [e0] at h1; exact h1
   go_wp2_with (at_builtin; refine bU (w0:=q.val) rfl (.tmp 29) (.tmp 33) 49 rfl 9 (sQ ⟨#[]⟩) 1 16 Tryz.underlying49 oG rfl (by omega) (by omega) w.heap.size _ _ _ rfl HR #[sQ (s.extract f s.size)] 1 _ rfl (by first | rfl | simp | exact Array.size_push _) rfl (by simp [Value.oneCell']) (by omega) hqs rfl rfl rfl rfl ?_; intro v5 w5 HO5 hg5 hb5)
   obtain ⟨A5,c5,hv5⟩:=aw HO5.out
   subst hv5
   go_ret
   have h2:dC (ps++[((bl s).take s.size).drop f])=dC ps++[Value.string (s.extract f s.size)]:=by unfold dC; rw [List.map_append,← HB.out]; simp [← dd rfl]
   rw [HF2.out,h2]
   refine ⟨A5,c5,by simp, ?_,(q.go' hb5).below⟩
   have h1:=HO5.out
   simpa using h1
theorem iQ {w:World} {B:Nat} {A:Option Addr} {c:Nat} {s:ByteArray} {b:UInt8} (h:w.ownsRow B 9 1 (F A (aG b (bl s)).length c) (aG b (bl s)).length (dC (aG b (bl s)))) :
  ∃ g,A=some ⟨g,0,none⟩∧w.cell? ⟨g,0,none⟩=some (sQ (aR s b))∧B≤g∧g < w.heap.size:=by
 obtain ⟨ps,hps,_⟩:=fV b (bl s)
 have hlen:0 < (aG b (bl s)).length:=by rw [hps]; simp
 obtain ⟨g,hA⟩ : ∃ g,A=some ⟨g,0,none⟩:=by
  obtain ⟨_,h0 | ⟨g,cap,cur,hv,_⟩⟩:=h
  ·have:=h0.2; omega
  ·injection hv with e1 e2 e3; exact ⟨g,e1⟩
 subst hA
 refine ⟨g,rfl, ?_,(h.lt g rfl).1,(h.lt g rfl).2⟩
 rw [h.cellAt 0 (by omega),hps]
 rfl
set_option maxRecDepth 100000 in
set_option maxHeartbeats 8000000 in
theorem oH (k:Nat) (s:ByteArray) (w:World) (hk:k≤1000) (hs:s.size≤1000000) :
  Calls Tryz.prog 128 #[sQ s,O U k] w (l0 k s w):=by
 have b1:=(Below.refl w.heap.size w).alloc (Nat.le_refl _) (.cells #[sQ ⟨#[]⟩,sQ ⟨#[]⟩] 62)
 have L1:=ai.new w 62 #[sQ ⟨#[]⟩,sQ ⟨#[]⟩]
 obtain ⟨t,htt⟩ : ∃ t:ByteArray,t=⟨(Lib.itoa (k:Int)).toArray⟩:=⟨_,rfl⟩
 have hts:t.size≤100:=by rw [htt]; exact cr (by omega) (by omega)
 have HN:Hid (∀ W,Calls Tryz.prog 71 #[O U k] W fun e w'=>e=.returned (sQ t)∧Below W.heap.size W w'):=fun W=>by rw [htt]; exact cl (k:Int) W (by omega) (by omega)
 have HT:Hid (bl t=Lib.itoa (k:Int)):=by rw [htt,Hid,bM]
 have HPre:Hid (bl (t++⟨#[32]⟩)=Lib.itoa (k:Int)++[32]):=by rw [Hid,du,HT.out]; rfl
 clear htt
 have z1:(⟨#[32]⟩ : ByteArray).size=1:=rfl
 have z2:(⟨#[10]⟩ : ByteArray).size=1:=rfl
 have HSp:=Lib.hid (fun W=>gG s 35 W (by omega))
 obtain ⟨x,hx⟩ : ∃ x:ByteArray,x=aR s 35:=⟨_,rfl⟩
 have hbx:bl x=dt 35 (bl s):=by rw [hx]; unfold aR; rw [bM]
 have hxs:x.size≤1000000:=by rw [← ap,hbx]; have:=jB 35 (bl s); rw [ap] at this; omega
 have HFirst:Hid (∀ (W:World) (B:Nat) (A:Option Addr) (c:Nat),W.ownsRow B 9 1 (F A (aG 35 (bl s)).length c) (aG 35 (bl s)).length (dC (aG 35 (bl s)))→∃ g,A=some ⟨g,0,none⟩∧W.cell? ⟨g,0,none⟩=some (sQ x)∧B≤g∧g < W.heap.size):=fun W B A c h=>by
  rw [hx]; exact iQ h
 have hps1:1≤(aG 35 (bl s)).length:=by obtain ⟨ps,e,_⟩:=fV 35 (bl s); rw [e]; simp
 have hps2:(aG 35 (bl s)).length≤1000001:=by have:=fi 35 (bl s) []; rw [ap] at this; unfold aG; omega
 obtain ⟨n0,hn0⟩ : ∃ n,n=(aG 35 (bl s)).length:=⟨_,rfl⟩
 rw [← hn0] at HSp HFirst hps1 hps2
 clear hx hn0
 obtain ⟨p,hp⟩ : ∃ p:ByteArray,p=t++⟨#[32]⟩:=⟨_,rfl⟩
 have hpz:p.size=t.size+1:=by rw [hp,dK]; rfl
 by_cases hpre:(Lib.itoa (k:Int)++[32]) <+: bl x
 ·have hsplit:=oF hpre
  have hpx:p.size≤x.size:=by have:=hpre.length_le; rw [← HPre.out,← hp,ap,ap] at this; exact this
  obtain ⟨u,hu⟩ : ∃ u:ByteArray,u=x.extract p.size x.size:=⟨_,rfl⟩
  have hbu:bl u=(bl x).drop (Lib.itoa (k:Int)++[32]).length:=by
   rw [hu,bE,List.take_of_length_le (by rw [ap]; exact Nat.le_refl _),← HPre.out,← hp,ap]
  rw [← hbu] at hsplit
  have hus:u.size≤1000000:=by rw [← ap,hbu,List.length_drop,ap]; omega
  have d1:decide ((x.size:Int) < (p.size:Int))=false:=decide_eq_false (by omega)
  have d2:((x.extract 0 p.size).toList == p.toList)=true:=by
   rw [jW]; refine decide_eq_true ?_
   have e1:bl p=Lib.itoa (k:Int)++[32]:=by rw [hp]; exact HPre.out
   rw [bE,List.drop_zero,e1,hsplit,show p.size=(Lib.itoa (k:Int)++[32]).length by rw [← e1]; rfl]
   exact List.take_left' rfl
  have HSu:Hid (∀ W,Calls Tryz.prog 58 #[sQ u,.int .u8 64] W fun e w'=>∃ A c,e=.returned (F A (aG 64 (bl u)).length c)∧w'.ownsRow W.heap.size 9 1 (F A (aG 64 (bl u)).length c) (aG 64 (bl u)).length (dC (aG 64 (bl u)))∧Below W.heap.size W w'):=fun W=>by
   exact gG u 64 W (by omega)
  have HFirstU:Hid (∀ (W:World) (B:Nat) (A:Option Addr) (c:Nat),W.ownsRow B 9 1 (F A (aG 64 (bl u)).length c) (aG 64 (bl u)).length (dC (aG 64 (bl u)))→∃ g,A=some ⟨g,0,none⟩∧W.cell? ⟨g,0,none⟩=some (sQ (aR u 64))∧B≤g∧g < W.heap.size):=fun W B A c h=>iQ h
  have hqs1:1≤(aG 64 (bl u)).length:=by obtain ⟨ps,e,_⟩:=fV 64 (bl u); rw [e]; simp
  have hqs2:(aG 64 (bl u)).length≤1000001:=by have:=fi 64 (bl u) []; rw [ap] at this; unfold aG; omega
  obtain ⟨n1,hn1⟩ : ∃ n,n=(aG 64 (bl u)).length:=⟨_,rfl⟩
  rw [← hn1] at HSu HFirstU hqs1 hqs2
  clear hn1
  have hcl:(aR u 64).size≤u.size:=by unfold aR; rw [← ap,bM]; have:=jB 64 (bl u); rw [ap] at this; omega
  have hur:u.size=x.size - p.size:=by rw [hu,← ap,bE,List.length_drop,List.length_take,ap]; omega
  have HPx:Hid (p=t++⟨#[32]⟩):=hp
  subst hp
  rw [hpz] at hpx d1 d2 hur hu
  have HU:=Lib.hid hu; clear hu
  have HUr:=Lib.hid hur; clear hur
  have i1:(t.size:Int)+1≤(x.size:Int):=by omega
  by_cases hat:(64:UInt8) ∈ bl u
  ·have hparts:=df hat
   have hdec:=na (c:=bl (aR u 64)) (r:=bl (aY u 64)) (s:=bl s) (k:=k) (by rw [← hbx,hsplit]; rw [show bl (aR u 64)++64 :: bl (aY u 64)=bl u by unfold aR aY; rw [bM,bM]; exact hparts.symm]) (by unfold aR; rw [bM]; exact fH 64 _)
   have hlen:=congrArg List.length hparts
   have hcz:(aR u 64).size=(dt 64 (bl u)).length:=by unfold aR; rw [← ap,bM]
   simp only [List.length_append,List.length_cons,List.length_drop,ap] at hlen
   have hEz:(aR u 64).size+1≤u.size:=by omega
   have d3:(((aR u 64).size:Int) == (u.size:Int))=false:=by simp; omega
   have HR:Hid (u.extract ((aR u 64).size+1) u.size=aY u 64):=by
    unfold aY Hid; refine dd ?_
    rw [bE,List.take_of_length_le (by rw [ap]; exact Nat.le_refl _),hcz]
   have hcr:(aY u 64).size≤1000000:=by unfold aY; rw [← ap,bM,List.length_drop,ap]; omega
   have HG:=Lib.hid (fun W=>fA ⟨aR u 64,aY u 64⟩ W (by simp only; omega) (by simp only; omega))
   have HLn:=Lib.hid (fun W=>kV k ⟨aR u 64,aY u 64⟩ W hk (by simp only; omega) hcr)
   obtain ⟨ln,hln⟩ : ∃ ln:ByteArray,ln=⟨(co k (bl (aR u 64)) (bl (aY u 64))).toArray⟩:=⟨_,rfl⟩
   simp only [← hln] at HLn
   have hbln:bl ln=co k (bl (aR u 64)) (bl (aY u 64)):=by rw [hln,bM]
   clear hlen hcz hparts hat
   cases hok:da.ok ⟨aR u 64,aY u 64⟩
   ·rw [hok] at HG
    have HD:Hid (dx k (bl s)=none):=by
     rw [Hid,hdec,if_neg (fun h=>by rw [show da.ok ⟨aR u 64,aY u 64⟩=fF (bl (aR u 64)) (bl (aY u 64)) from rfl,h.1] at hok; cases hok)]
    clear hpre hsplit hbu hbx hdec hok hln hbln
    go_enter Tryz.func128,Tryz.ntmps128
    go_wp2_with fail
    generalize w.alloc (.cells #[sQ ⟨#[]⟩,sQ ⟨#[]⟩] 62)=W at b1 L1 ⊢
    generalize hg:w.heap.size=g at L1 ⊢
    refine (HN.out _).mono ?_
    rintro e w2 ⟨rfl,hb2⟩
    go_wp2_with fail
    refine (HSp.out _).mono ?_
    rintro e w3 ⟨A3,c3,rfl,hO3,hb3⟩
    obtain ⟨g3,rfl,x0,hg3,hg3'⟩:=HFirst.out _ _ _ _ hO3
    have hb13:=ar hb2 hb3
    have L3:=L1.below hb13 L1.lt
    clear hO3
    go_wp2_with fail
    rw [← HU.out]
    refine (HSu.out _).mono ?_
    rintro e w4 ⟨A4,c4,rfl,hO4,hb4⟩
    obtain ⟨g4,rfl,x1,hg4,hg4'⟩:=HFirstU.out _ _ _ _ hO4
    have hb14:=ar hb13 hb4
    have L4:=L3.below hb4 L3.lt
    clear hO4
    have hEs:((aR u 64).size:Int)+1≤(u.size:Int):=by omega
    go_wp2_with fail
    rw [HR.out]
    have N5:=ai.new w4 62 #[sQ (aR u 64),sQ (aY u 64)]
    have L5:=L4.alloc (.cells #[sQ (aR u 64),sQ (aY u 64)] 62)
    have hb5:=(ar b1 hb14).trans ((Below.refl w.heap.size w4).alloc (by have:=(ar b1 hb14).size; omega) (.cells #[sQ (aR u 64),sQ (aY u 64)] 62))
    generalize w4.alloc (.cells #[sQ (aR u 64),sQ (aY u 64)] 62)=W5 at N5 L5 hb5 ⊢
    have hne:g ≠ w4.heap.size:=by have:=L4.lt; omega
    generalize w4.heap.size=ge at N5 hne ⊢
    have hgw:w.heap.size≤g:=by omega
    clear L1 L3 L4 x0 x1
    refine fE (fun W9=>(∃ a b,ai W9 g 62 [sQ a,sQ b])∧ai W9 ge 62 [sQ (aR u 64),sQ (aY u 64)]∧Below w.heap.size w W9) (fun W8 W9=>ai W8 g 62 [sQ (aR u 64),sQ (aY u 64)]→ai W9 g 62 [sQ (aR u 64),sQ (aY u 64)]) (by kernel_rfl) (by kernel_rfl) (by kernel_rfl) ⟨⟨_,_,L5.below (Below.refl _ _).drew L5.lt⟩,N5.below (Below.refl _ _).drew N5.lt,hb5.drew⟩ ?_
    simp only [ax,Act.put,List.setIfInBounds_toArray,List.set_cons_zero,List.set_cons_succ,Nat.zero_add,Nat.reduceAdd]
    refine aF (.agg #[sQ (aR u 64),sQ (aY u 64)]) (fun vs w9 hC9 hB K9 hK9=>?_) ?_
    ·obtain ⟨⟨a9,b9,hG9⟩,hN9,hW9⟩:=hC9
     have q0:w9.cell? ⟨ge,0,none⟩=some (sQ (aR u 64)):=hN9.cell 0
     have q1:w9.cell? ⟨ge,1,none⟩=some (sQ (aY u 64)):=hN9.cell 1
     go_simp
     exact hK9 _ _ rfl ⟨⟨a9,b9,hG9⟩,hN9,hW9⟩ id
    refine aF (.agg #[sQ (aR u 64),sQ (aY u 64)]) (fun vs w9 hC9 hB K9 hK9=>?_) ?_
    ·obtain ⟨⟨a9,b9,hG9⟩,hN9,hW9⟩:=hC9
     have q0:w9.cell? ⟨ge,0,none⟩=some (sQ (aR u 64)):=hN9.cell 0
     have q1:w9.cell? ⟨ge,1,none⟩=some (sQ (aY u 64)):=hN9.cell 1
     go_simp
     exact hK9 _ _ rfl ⟨⟨a9,b9,hG9⟩,hN9,hW9⟩ id
    refine aF (.bool false) (fun vs w9 hC9 hB K9 hK9=>?_) ?_
    ·have hd1:=hB 1 _ (by kernel_rfl) rfl
     simp only [hd1] at hK9 ⊢
     obtain ⟨⟨a9,b9,hG9⟩,hN9,hW9⟩:=hC9
     go_simp
     refine (HG.out _).mono ?_
     rintro e8 w8 ⟨rfl,hb8⟩
     exact hK9 _ _ rfl ⟨⟨a9,b9,hG9.below hb8 hG9.lt⟩,hN9.below hb8 hN9.lt,hW9.trans (hb8.mono hW9.size)⟩ (fun h=>h.below hb8 h.lt)
    refine aF (.bool false) (fun vs w9 hC9 hB K9 hK9=>?_) ?_
    ·have hd2:=hB 2 _ (by kernel_rfl) rfl
     simp only [hd2] at hK9 ⊢
     obtain ⟨⟨a9,b9,hG9⟩,hN9,hW9⟩:=hC9
     go_simp
     exact hK9 _ _ rfl ⟨⟨a9,b9,hG9⟩,hN9,hW9⟩ id
    refine aF (undef) (fun vs w9 hC9 hB K9 hK9=>?_) ?_
    ·have hd3:=hB 3 _ (by kernel_rfl) rfl
     simp only [hd3] at hK9 ⊢
     obtain ⟨⟨a9,b9,hG9⟩,hN9,hW9⟩:=hC9
     go_simp
     exact hK9 _ _ rfl ⟨⟨a9,b9,hG9⟩,hN9,hW9⟩ id
    refine aF (undef) (fun vs w9 hC9 hB K9 hK9=>?_) ?_
    ·have hd3:=hB 3 _ (by kernel_rfl) rfl
     simp only [hd3] at hK9 ⊢
     obtain ⟨⟨a9,b9,hG9⟩,hN9,hW9⟩:=hC9
     go_simp
     exact hK9 _ _ rfl ⟨⟨a9,b9,hG9⟩,hN9,hW9⟩ id
    refine aF (undef) (fun vs w9 hC9 hB K9 hK9=>?_) ?_
    ·have hd3:=hB 3 _ (by kernel_rfl) rfl
     simp only [hd3] at hK9 ⊢
     obtain ⟨⟨a9,b9,hG9⟩,hN9,hW9⟩:=hC9
     go_simp
     exact hK9 _ _ rfl ⟨⟨a9,b9,hG9⟩,hN9,hW9⟩ id
    refine aF (undef) (fun vs w9 hC9 hB K9 hK9=>?_) ?_
    ·have hd3:=hB 3 _ (by kernel_rfl) rfl
     simp only [hd3] at hK9 ⊢
     obtain ⟨⟨a9,b9,hG9⟩,hN9,hW9⟩:=hC9
     go_simp
     exact hK9 _ _ rfl ⟨⟨a9,b9,hG9⟩,hN9,hW9⟩ id
    refine aF (undef) (fun vs w9 hC9 hB K9 hK9=>?_) ?_
    ·have hd3:=hB 3 _ (by kernel_rfl) rfl
     simp only [hd3] at hK9 ⊢
     obtain ⟨⟨a9,b9,hG9⟩,hN9,hW9⟩:=hC9
     go_simp
     exact hK9 _ _ rfl ⟨⟨a9,b9,hG9⟩,hN9,hW9⟩ id
    refine aF (undef) (fun vs w9 hC9 hB K9 hK9=>?_) ?_
    ·have hd3:=hB 3 _ (by kernel_rfl) rfl
     simp only [hd3] at hK9 ⊢
     obtain ⟨⟨a9,b9,hG9⟩,hN9,hW9⟩:=hC9
     go_simp
     exact hK9 _ _ rfl ⟨⟨a9,b9,hG9⟩,hN9,hW9⟩ id
    refine aF (.bool false) (fun vs w9 hC9 hB K9 hK9=>?_) ?_
    ·have hd3:=hB 3 _ (by kernel_rfl) rfl
     simp only [hd3] at hK9 ⊢
     obtain ⟨⟨a9,b9,hG9⟩,hN9,hW9⟩:=hC9
     go_simp
     exact hK9 _ _ rfl ⟨⟨a9,b9,hG9⟩,hN9,hW9⟩ id
    refine im (fun _ W9=>ai W9 g 62 [sQ (aR u 64),sQ (aY u 64)]) (fun _ _ _ h hT=>hT h) (fun vs w9 hC9 hB K9 hK9=>?_) ?_
    ·have hd0:=hB 0 _ (by kernel_rfl) rfl
     simp only [hd0] at hK9 ⊢
     obtain ⟨⟨a9,b9,hG9⟩,hN9,hW9⟩:=hC9
     have q0:w9.cell? ⟨g,0,none⟩=some (sQ a9):=hG9.cell 0
     have q1:w9.cell? ⟨g,1,none⟩=some (sQ b9):=hG9.cell 1
     have f0:=hG9.frozen 0
     have f1:=hG9.frozen 1
     have hS:ai ((w9.setCell ⟨g,0,none⟩ (sQ (aR u 64))).setCell ⟨g,1,none⟩ (sQ (aY u 64))) g 62 [sQ (aR u 64),sQ (aY u 64)]:=(hG9.set 0 (sQ (aR u 64))).set 1 (sQ (aY u 64))
     have hN:ai ((w9.setCell ⟨g,0,none⟩ (sQ (aR u 64))).setCell ⟨g,1,none⟩ (sQ (aY u 64))) ge 62 [sQ (aR u 64),sQ (aY u 64)]:=(hN9.other (p:=⟨g,0,none⟩) (Ne.symm hne) _).other (p:=⟨g,1,none⟩) (Ne.symm hne) _
     have hW:=(hW9.setCell (p:=⟨g,0,none⟩) hgw (sQ (aR u 64))).setCell (p:=⟨g,1,none⟩) hgw (sQ (aY u 64))
     go_simp
     exact hK9 _ undef _ rfl hS ⟨⟨_,_,hS⟩,hN,hW⟩ (fun _=>hS)
    refine aF (.bool false) (fun vs w9 hC9 hB K9 hK9=>?_) ?_
    ·have hd10:=hB 10 _ (by kernel_rfl) rfl
     simp only [hd10] at hK9 ⊢
     obtain ⟨⟨a9,b9,hG9⟩,hN9,hW9⟩:=hC9
     go_simp
     exact hK9 _ _ rfl ⟨⟨a9,b9,hG9⟩,hN9,hW9⟩ id
    refine iJ fun vs W9 hC9 hB=>?_
    have hv12:=hB 12 _ rfl
    have hS:=hB 11 _ rfl
    obtain ⟨_,_,hW9⟩:=hC9
    simp only [hv12]
    have c0:=hS.cell 0
    have c1:=hS.cell 1
    simp only [List.getElem?_cons_zero,List.getElem?_cons_succ] at c0 c1
    clear hS hB hv12
    go_wp2_with fail
    refine bodyPost_ret (v:=.tuple #[.agg #[sQ (aR u 64),sQ (aY u 64)],.bool false]) (by simp [results,Tryz.results128,go_sem, *]) rfl ⟨aR u 64,aY u 64,false,rfl,.inr ⟨rfl,HD.out⟩,hW9⟩
   ·rw [hok] at HG
    by_cases heq:co k (bl (aR u 64)) (bl (aY u 64))=bl s++[10]
    ·have HD:Hid (dx k (bl s)=some (bl (aR u 64),bl (aY u 64))):=by rw [Hid,hdec,if_pos ⟨hok,heq⟩]
     have HEq:Hid ((ln.toList == (s++⟨#[10]⟩ : ByteArray).toList)=true):=by rw [Hid,jW]; exact decide_eq_true (by rw [hbln,heq,du]; rfl)
     clear hpre hsplit hbu hbx hdec hok heq hln hbln
     go_enter Tryz.func128,Tryz.ntmps128
     go_wp2_with fail
     generalize w.alloc (.cells #[sQ ⟨#[]⟩,sQ ⟨#[]⟩] 62)=W at b1 L1 ⊢
     generalize hg:w.heap.size=g at L1 ⊢
     refine (HN.out _).mono ?_
     rintro e w2 ⟨rfl,hb2⟩
     go_wp2_with fail
     refine (HSp.out _).mono ?_
     rintro e w3 ⟨A3,c3,rfl,hO3,hb3⟩
     obtain ⟨g3,rfl,x0,hg3,hg3'⟩:=HFirst.out _ _ _ _ hO3
     have hb13:=ar hb2 hb3
     have L3:=L1.below hb13 L1.lt
     clear hO3
     go_wp2_with fail
     rw [← HU.out]
     refine (HSu.out _).mono ?_
     rintro e w4 ⟨A4,c4,rfl,hO4,hb4⟩
     obtain ⟨g4,rfl,x1,hg4,hg4'⟩:=HFirstU.out _ _ _ _ hO4
     have hb14:=ar hb13 hb4
     have L4:=L3.below hb4 L3.lt
     clear hO4
     have hEs:((aR u 64).size:Int)+1≤(u.size:Int):=by omega
     go_wp2_with fail
     rw [HR.out]
     have N5:=ai.new w4 62 #[sQ (aR u 64),sQ (aY u 64)]
     have L5:=L4.alloc (.cells #[sQ (aR u 64),sQ (aY u 64)] 62)
     have hb5:=(ar b1 hb14).trans ((Below.refl w.heap.size w4).alloc (by have:=(ar b1 hb14).size; omega) (.cells #[sQ (aR u 64),sQ (aY u 64)] 62))
     generalize w4.alloc (.cells #[sQ (aR u 64),sQ (aY u 64)] 62)=W5 at N5 L5 hb5 ⊢
     have hne:g ≠ w4.heap.size:=by have:=L4.lt; omega
     generalize w4.heap.size=ge at N5 hne ⊢
     have hgw:w.heap.size≤g:=by omega
     clear L1 L3 L4 x0 x1
     refine fE (fun W9=>(∃ a b,ai W9 g 62 [sQ a,sQ b])∧ai W9 ge 62 [sQ (aR u 64),sQ (aY u 64)]∧Below w.heap.size w W9) (fun W8 W9=>ai W8 g 62 [sQ (aR u 64),sQ (aY u 64)]→ai W9 g 62 [sQ (aR u 64),sQ (aY u 64)]) (by kernel_rfl) (by kernel_rfl) (by kernel_rfl) ⟨⟨_,_,L5.below (Below.refl _ _).drew L5.lt⟩,N5.below (Below.refl _ _).drew N5.lt,hb5.drew⟩ ?_
     simp only [ax,Act.put,List.setIfInBounds_toArray,List.set_cons_zero,List.set_cons_succ,Nat.zero_add,Nat.reduceAdd]
     refine aF (.agg #[sQ (aR u 64),sQ (aY u 64)]) (fun vs w9 hC9 hB K9 hK9=>?_) ?_
     ·obtain ⟨⟨a9,b9,hG9⟩,hN9,hW9⟩:=hC9
      have q0:w9.cell? ⟨ge,0,none⟩=some (sQ (aR u 64)):=hN9.cell 0
      have q1:w9.cell? ⟨ge,1,none⟩=some (sQ (aY u 64)):=hN9.cell 1
      go_simp
      exact hK9 _ _ rfl ⟨⟨a9,b9,hG9⟩,hN9,hW9⟩ id
     refine aF (.agg #[sQ (aR u 64),sQ (aY u 64)]) (fun vs w9 hC9 hB K9 hK9=>?_) ?_
     ·obtain ⟨⟨a9,b9,hG9⟩,hN9,hW9⟩:=hC9
      have q0:w9.cell? ⟨ge,0,none⟩=some (sQ (aR u 64)):=hN9.cell 0
      have q1:w9.cell? ⟨ge,1,none⟩=some (sQ (aY u 64)):=hN9.cell 1
      go_simp
      exact hK9 _ _ rfl ⟨⟨a9,b9,hG9⟩,hN9,hW9⟩ id
     refine aF (.bool true) (fun vs w9 hC9 hB K9 hK9=>?_) ?_
     ·have hd1:=hB 1 _ (by kernel_rfl) rfl
      simp only [hd1] at hK9 ⊢
      obtain ⟨⟨a9,b9,hG9⟩,hN9,hW9⟩:=hC9
      go_simp
      refine (HG.out _).mono ?_
      rintro e8 w8 ⟨rfl,hb8⟩
      exact hK9 _ _ rfl ⟨⟨a9,b9,hG9.below hb8 hG9.lt⟩,hN9.below hb8 hN9.lt,hW9.trans (hb8.mono hW9.size)⟩ (fun h=>h.below hb8 h.lt)
     refine aF (.bool true) (fun vs w9 hC9 hB K9 hK9=>?_) ?_
     ·have hd2:=hB 2 _ (by kernel_rfl) rfl
      simp only [hd2] at hK9 ⊢
      obtain ⟨⟨a9,b9,hG9⟩,hN9,hW9⟩:=hC9
      go_simp
      exact hK9 _ _ rfl ⟨⟨a9,b9,hG9⟩,hN9,hW9⟩ id
     refine aF (O U (k:Int)) (fun vs w9 hC9 hB K9 hK9=>?_) ?_
     ·have hd3:=hB 3 _ (by kernel_rfl) rfl
      simp only [hd3] at hK9 ⊢
      obtain ⟨⟨a9,b9,hG9⟩,hN9,hW9⟩:=hC9
      go_simp
      exact hK9 _ _ rfl ⟨⟨a9,b9,hG9⟩,hN9,hW9⟩ id
     refine aF (.agg #[sQ (aR u 64),sQ (aY u 64)]) (fun vs w9 hC9 hB K9 hK9=>?_) ?_
     ·have hd3:=hB 3 _ (by kernel_rfl) rfl
      simp only [hd3] at hK9 ⊢
      obtain ⟨⟨a9,b9,hG9⟩,hN9,hW9⟩:=hC9
      have q0:w9.cell? ⟨ge,0,none⟩=some (sQ (aR u 64)):=hN9.cell 0
      have q1:w9.cell? ⟨ge,1,none⟩=some (sQ (aY u 64)):=hN9.cell 1
      go_simp
      exact hK9 _ _ rfl ⟨⟨a9,b9,hG9⟩,hN9,hW9⟩ id
     refine aF (sQ ln) (fun vs w9 hC9 hB K9 hK9=>?_) ?_
     ·have hd3:=hB 3 _ (by kernel_rfl) rfl
      have hd4:=hB 4 _ (by kernel_rfl) rfl
      have hd5:=hB 5 _ (by kernel_rfl) rfl
      simp only [hd3,hd4,hd5] at hK9 ⊢
      obtain ⟨⟨a9,b9,hG9⟩,hN9,hW9⟩:=hC9
      go_simp
      refine (HLn.out _).mono ?_
      rintro e8 w8 ⟨rfl,hb8⟩
      exact hK9 _ _ rfl ⟨⟨a9,b9,hG9.below hb8 hG9.lt⟩,hN9.below hb8 hN9.lt,hW9.trans (hb8.mono hW9.size)⟩ (fun h=>h.below hb8 h.lt)
     refine aF (sQ s) (fun vs w9 hC9 hB K9 hK9=>?_) ?_
     ·have hd3:=hB 3 _ (by kernel_rfl) rfl
      simp only [hd3] at hK9 ⊢
      obtain ⟨⟨a9,b9,hG9⟩,hN9,hW9⟩:=hC9
      go_simp
      exact hK9 _ _ rfl ⟨⟨a9,b9,hG9⟩,hN9,hW9⟩ id
     refine aF (sQ (s++⟨#[10]⟩)) (fun vs w9 hC9 hB K9 hK9=>?_) ?_
     ·have hd3:=hB 3 _ (by kernel_rfl) rfl
      have hd7:=hB 7 _ (by kernel_rfl) rfl
      simp only [hd3,hd7] at hK9 ⊢
      obtain ⟨⟨a9,b9,hG9⟩,hN9,hW9⟩:=hC9
      go_simp
      (first | (rw [if_neg (by omega)]; go_simp) | skip)
      exact hK9 _ _ rfl ⟨⟨a9,b9,hG9⟩,hN9,hW9⟩ id
     refine aF (.bool true) (fun vs w9 hC9 hB K9 hK9=>?_) ?_
     ·have hd3:=hB 3 _ (by kernel_rfl) rfl
      have hd6:=hB 6 _ (by kernel_rfl) rfl
      have hd8:=hB 8 _ (by kernel_rfl) rfl
      simp only [hd3,hd6,hd8] at hK9 ⊢
      obtain ⟨⟨a9,b9,hG9⟩,hN9,hW9⟩:=hC9
      have hq:=HEq.out
      go_simp
      exact hK9 _ _ rfl ⟨⟨a9,b9,hG9⟩,hN9,hW9⟩ id
     refine aF (.bool true) (fun vs w9 hC9 hB K9 hK9=>?_) ?_
     ·have hd3:=hB 3 _ (by kernel_rfl) rfl
      have hd9:=hB 9 _ (by kernel_rfl) rfl
      simp only [hd3,hd9] at hK9 ⊢
      obtain ⟨⟨a9,b9,hG9⟩,hN9,hW9⟩:=hC9
      go_simp
      exact hK9 _ _ rfl ⟨⟨a9,b9,hG9⟩,hN9,hW9⟩ id
     refine im (fun _ W9=>ai W9 g 62 [sQ (aR u 64),sQ (aY u 64)]) (fun _ _ _ h hT=>hT h) (fun vs w9 hC9 hB K9 hK9=>?_) ?_
     ·have hd0:=hB 0 _ (by kernel_rfl) rfl
      simp only [hd0] at hK9 ⊢
      obtain ⟨⟨a9,b9,hG9⟩,hN9,hW9⟩:=hC9
      have q0:w9.cell? ⟨g,0,none⟩=some (sQ a9):=hG9.cell 0
      have q1:w9.cell? ⟨g,1,none⟩=some (sQ b9):=hG9.cell 1
      have f0:=hG9.frozen 0
      have f1:=hG9.frozen 1
      have hS:ai ((w9.setCell ⟨g,0,none⟩ (sQ (aR u 64))).setCell ⟨g,1,none⟩ (sQ (aY u 64))) g 62 [sQ (aR u 64),sQ (aY u 64)]:=(hG9.set 0 (sQ (aR u 64))).set 1 (sQ (aY u 64))
      have hN:ai ((w9.setCell ⟨g,0,none⟩ (sQ (aR u 64))).setCell ⟨g,1,none⟩ (sQ (aY u 64))) ge 62 [sQ (aR u 64),sQ (aY u 64)]:=(hN9.other (p:=⟨g,0,none⟩) (Ne.symm hne) _).other (p:=⟨g,1,none⟩) (Ne.symm hne) _
      have hW:=(hW9.setCell (p:=⟨g,0,none⟩) hgw (sQ (aR u 64))).setCell (p:=⟨g,1,none⟩) hgw (sQ (aY u 64))
      go_simp
      exact hK9 _ undef _ rfl hS ⟨⟨_,_,hS⟩,hN,hW⟩ (fun _=>hS)
     refine aF (.bool true) (fun vs w9 hC9 hB K9 hK9=>?_) ?_
     ·have hd10:=hB 10 _ (by kernel_rfl) rfl
      simp only [hd10] at hK9 ⊢
      obtain ⟨⟨a9,b9,hG9⟩,hN9,hW9⟩:=hC9
      go_simp
      exact hK9 _ _ rfl ⟨⟨a9,b9,hG9⟩,hN9,hW9⟩ id
     refine iJ fun vs W9 hC9 hB=>?_
     have hv12:=hB 12 _ rfl
     have hS:=hB 11 _ rfl
     obtain ⟨_,_,hW9⟩:=hC9
     simp only [hv12]
     have c0:=hS.cell 0
     have c1:=hS.cell 1
     simp only [List.getElem?_cons_zero,List.getElem?_cons_succ] at c0 c1
     clear hS hB hv12
     go_wp2_with fail
     refine bodyPost_ret (v:=.tuple #[.agg #[sQ (aR u 64),sQ (aY u 64)],.bool true]) (by simp [results,Tryz.results128,go_sem, *]) rfl ⟨aR u 64,aY u 64,true,rfl,.inl ⟨rfl,HD.out⟩,hW9⟩
    ·have HD:Hid (dx k (bl s)=none):=by rw [Hid,hdec,if_neg (fun h=>heq h.2)]
     have HEq:Hid ((ln.toList == (s++⟨#[10]⟩ : ByteArray).toList)=false):=by rw [Hid,jW]; exact decide_eq_false (fun h=>heq (by rw [← hbln,h,du]; rfl))
     clear hpre hsplit hbu hbx hdec hok heq hln hbln
     go_enter Tryz.func128,Tryz.ntmps128
     go_wp2_with fail
     generalize w.alloc (.cells #[sQ ⟨#[]⟩,sQ ⟨#[]⟩] 62)=W at b1 L1 ⊢
     generalize hg:w.heap.size=g at L1 ⊢
     refine (HN.out _).mono ?_
     rintro e w2 ⟨rfl,hb2⟩
     go_wp2_with fail
     refine (HSp.out _).mono ?_
     rintro e w3 ⟨A3,c3,rfl,hO3,hb3⟩
     obtain ⟨g3,rfl,x0,hg3,hg3'⟩:=HFirst.out _ _ _ _ hO3
     have hb13:=ar hb2 hb3
     have L3:=L1.below hb13 L1.lt
     clear hO3
     go_wp2_with fail
     rw [← HU.out]
     refine (HSu.out _).mono ?_
     rintro e w4 ⟨A4,c4,rfl,hO4,hb4⟩
     obtain ⟨g4,rfl,x1,hg4,hg4'⟩:=HFirstU.out _ _ _ _ hO4
     have hb14:=ar hb13 hb4
     have L4:=L3.below hb4 L3.lt
     clear hO4
     have hEs:((aR u 64).size:Int)+1≤(u.size:Int):=by omega
     go_wp2_with fail
     rw [HR.out]
     have N5:=ai.new w4 62 #[sQ (aR u 64),sQ (aY u 64)]
     have L5:=L4.alloc (.cells #[sQ (aR u 64),sQ (aY u 64)] 62)
     have hb5:=(ar b1 hb14).trans ((Below.refl w.heap.size w4).alloc (by have:=(ar b1 hb14).size; omega) (.cells #[sQ (aR u 64),sQ (aY u 64)] 62))
     generalize w4.alloc (.cells #[sQ (aR u 64),sQ (aY u 64)] 62)=W5 at N5 L5 hb5 ⊢
     have hne:g ≠ w4.heap.size:=by have:=L4.lt; omega
     generalize w4.heap.size=ge at N5 hne ⊢
     have hgw:w.heap.size≤g:=by omega
     clear L1 L3 L4 x0 x1
     refine fE (fun W9=>(∃ a b,ai W9 g 62 [sQ a,sQ b])∧ai W9 ge 62 [sQ (aR u 64),sQ (aY u 64)]∧Below w.heap.size w W9) (fun W8 W9=>ai W8 g 62 [sQ (aR u 64),sQ (aY u 64)]→ai W9 g 62 [sQ (aR u 64),sQ (aY u 64)]) (by kernel_rfl) (by kernel_rfl) (by kernel_rfl) ⟨⟨_,_,L5.below (Below.refl _ _).drew L5.lt⟩,N5.below (Below.refl _ _).drew N5.lt,hb5.drew⟩ ?_
     simp only [ax,Act.put,List.setIfInBounds_toArray,List.set_cons_zero,List.set_cons_succ,Nat.zero_add,Nat.reduceAdd]
     refine aF (.agg #[sQ (aR u 64),sQ (aY u 64)]) (fun vs w9 hC9 hB K9 hK9=>?_) ?_
     ·obtain ⟨⟨a9,b9,hG9⟩,hN9,hW9⟩:=hC9
      have q0:w9.cell? ⟨ge,0,none⟩=some (sQ (aR u 64)):=hN9.cell 0
      have q1:w9.cell? ⟨ge,1,none⟩=some (sQ (aY u 64)):=hN9.cell 1
      go_simp
      exact hK9 _ _ rfl ⟨⟨a9,b9,hG9⟩,hN9,hW9⟩ id
     refine aF (.agg #[sQ (aR u 64),sQ (aY u 64)]) (fun vs w9 hC9 hB K9 hK9=>?_) ?_
     ·obtain ⟨⟨a9,b9,hG9⟩,hN9,hW9⟩:=hC9
      have q0:w9.cell? ⟨ge,0,none⟩=some (sQ (aR u 64)):=hN9.cell 0
      have q1:w9.cell? ⟨ge,1,none⟩=some (sQ (aY u 64)):=hN9.cell 1
      go_simp
      exact hK9 _ _ rfl ⟨⟨a9,b9,hG9⟩,hN9,hW9⟩ id
     refine aF (.bool true) (fun vs w9 hC9 hB K9 hK9=>?_) ?_
     ·have hd1:=hB 1 _ (by kernel_rfl) rfl
      simp only [hd1] at hK9 ⊢
      obtain ⟨⟨a9,b9,hG9⟩,hN9,hW9⟩:=hC9
      go_simp
      refine (HG.out _).mono ?_
      rintro e8 w8 ⟨rfl,hb8⟩
      exact hK9 _ _ rfl ⟨⟨a9,b9,hG9.below hb8 hG9.lt⟩,hN9.below hb8 hN9.lt,hW9.trans (hb8.mono hW9.size)⟩ (fun h=>h.below hb8 h.lt)
     refine aF (.bool true) (fun vs w9 hC9 hB K9 hK9=>?_) ?_
     ·have hd2:=hB 2 _ (by kernel_rfl) rfl
      simp only [hd2] at hK9 ⊢
      obtain ⟨⟨a9,b9,hG9⟩,hN9,hW9⟩:=hC9
      go_simp
      exact hK9 _ _ rfl ⟨⟨a9,b9,hG9⟩,hN9,hW9⟩ id
     refine aF (O U (k:Int)) (fun vs w9 hC9 hB K9 hK9=>?_) ?_
     ·have hd3:=hB 3 _ (by kernel_rfl) rfl
      simp only [hd3] at hK9 ⊢
      obtain ⟨⟨a9,b9,hG9⟩,hN9,hW9⟩:=hC9
      go_simp
      exact hK9 _ _ rfl ⟨⟨a9,b9,hG9⟩,hN9,hW9⟩ id
     refine aF (.agg #[sQ (aR u 64),sQ (aY u 64)]) (fun vs w9 hC9 hB K9 hK9=>?_) ?_
     ·have hd3:=hB 3 _ (by kernel_rfl) rfl
      simp only [hd3] at hK9 ⊢
      obtain ⟨⟨a9,b9,hG9⟩,hN9,hW9⟩:=hC9
      have q0:w9.cell? ⟨ge,0,none⟩=some (sQ (aR u 64)):=hN9.cell 0
      have q1:w9.cell? ⟨ge,1,none⟩=some (sQ (aY u 64)):=hN9.cell 1
      go_simp
      exact hK9 _ _ rfl ⟨⟨a9,b9,hG9⟩,hN9,hW9⟩ id
     refine aF (sQ ln) (fun vs w9 hC9 hB K9 hK9=>?_) ?_
     ·have hd3:=hB 3 _ (by kernel_rfl) rfl
      have hd4:=hB 4 _ (by kernel_rfl) rfl
      have hd5:=hB 5 _ (by kernel_rfl) rfl
      simp only [hd3,hd4,hd5] at hK9 ⊢
      obtain ⟨⟨a9,b9,hG9⟩,hN9,hW9⟩:=hC9
      go_simp
      refine (HLn.out _).mono ?_
      rintro e8 w8 ⟨rfl,hb8⟩
      exact hK9 _ _ rfl ⟨⟨a9,b9,hG9.below hb8 hG9.lt⟩,hN9.below hb8 hN9.lt,hW9.trans (hb8.mono hW9.size)⟩ (fun h=>h.below hb8 h.lt)
     refine aF (sQ s) (fun vs w9 hC9 hB K9 hK9=>?_) ?_
     ·have hd3:=hB 3 _ (by kernel_rfl) rfl
      simp only [hd3] at hK9 ⊢
      obtain ⟨⟨a9,b9,hG9⟩,hN9,hW9⟩:=hC9
      go_simp
      exact hK9 _ _ rfl ⟨⟨a9,b9,hG9⟩,hN9,hW9⟩ id
     refine aF (sQ (s++⟨#[10]⟩)) (fun vs w9 hC9 hB K9 hK9=>?_) ?_
     ·have hd3:=hB 3 _ (by kernel_rfl) rfl
      have hd7:=hB 7 _ (by kernel_rfl) rfl
      simp only [hd3,hd7] at hK9 ⊢
      obtain ⟨⟨a9,b9,hG9⟩,hN9,hW9⟩:=hC9
      go_simp
      (first | (rw [if_neg (by omega)]; go_simp) | skip)
      exact hK9 _ _ rfl ⟨⟨a9,b9,hG9⟩,hN9,hW9⟩ id
     refine aF (.bool false) (fun vs w9 hC9 hB K9 hK9=>?_) ?_
     ·have hd3:=hB 3 _ (by kernel_rfl) rfl
      have hd6:=hB 6 _ (by kernel_rfl) rfl
      have hd8:=hB 8 _ (by kernel_rfl) rfl
      simp only [hd3,hd6,hd8] at hK9 ⊢
      obtain ⟨⟨a9,b9,hG9⟩,hN9,hW9⟩:=hC9
      have hq:=HEq.out
      go_simp
      exact hK9 _ _ rfl ⟨⟨a9,b9,hG9⟩,hN9,hW9⟩ id
     refine aF (.bool false) (fun vs w9 hC9 hB K9 hK9=>?_) ?_
     ·have hd3:=hB 3 _ (by kernel_rfl) rfl
      have hd9:=hB 9 _ (by kernel_rfl) rfl
      simp only [hd3,hd9] at hK9 ⊢
      obtain ⟨⟨a9,b9,hG9⟩,hN9,hW9⟩:=hC9
      go_simp
      exact hK9 _ _ rfl ⟨⟨a9,b9,hG9⟩,hN9,hW9⟩ id
     refine im (fun _ W9=>ai W9 g 62 [sQ (aR u 64),sQ (aY u 64)]) (fun _ _ _ h hT=>hT h) (fun vs w9 hC9 hB K9 hK9=>?_) ?_
     ·have hd0:=hB 0 _ (by kernel_rfl) rfl
      simp only [hd0] at hK9 ⊢
      obtain ⟨⟨a9,b9,hG9⟩,hN9,hW9⟩:=hC9
      have q0:w9.cell? ⟨g,0,none⟩=some (sQ a9):=hG9.cell 0
      have q1:w9.cell? ⟨g,1,none⟩=some (sQ b9):=hG9.cell 1
      have f0:=hG9.frozen 0
      have f1:=hG9.frozen 1
      have hS:ai ((w9.setCell ⟨g,0,none⟩ (sQ (aR u 64))).setCell ⟨g,1,none⟩ (sQ (aY u 64))) g 62 [sQ (aR u 64),sQ (aY u 64)]:=(hG9.set 0 (sQ (aR u 64))).set 1 (sQ (aY u 64))
      have hN:ai ((w9.setCell ⟨g,0,none⟩ (sQ (aR u 64))).setCell ⟨g,1,none⟩ (sQ (aY u 64))) ge 62 [sQ (aR u 64),sQ (aY u 64)]:=(hN9.other (p:=⟨g,0,none⟩) (Ne.symm hne) _).other (p:=⟨g,1,none⟩) (Ne.symm hne) _
      have hW:=(hW9.setCell (p:=⟨g,0,none⟩) hgw (sQ (aR u 64))).setCell (p:=⟨g,1,none⟩) hgw (sQ (aY u 64))
      go_simp
      exact hK9 _ undef _ rfl hS ⟨⟨_,_,hS⟩,hN,hW⟩ (fun _=>hS)
     refine aF (.bool false) (fun vs w9 hC9 hB K9 hK9=>?_) ?_
     ·have hd10:=hB 10 _ (by kernel_rfl) rfl
      simp only [hd10] at hK9 ⊢
      obtain ⟨⟨a9,b9,hG9⟩,hN9,hW9⟩:=hC9
      go_simp
      exact hK9 _ _ rfl ⟨⟨a9,b9,hG9⟩,hN9,hW9⟩ id
     refine iJ fun vs W9 hC9 hB=>?_
     have hv12:=hB 12 _ rfl
     have hS:=hB 11 _ rfl
     obtain ⟨_,_,hW9⟩:=hC9
     simp only [hv12]
     have c0:=hS.cell 0
     have c1:=hS.cell 1
     simp only [List.getElem?_cons_zero,List.getElem?_cons_succ] at c0 c1
     clear hS hB hv12
     go_wp2_with fail
     refine bodyPost_ret (v:=.tuple #[.agg #[sQ (aR u 64),sQ (aY u 64)],.bool false]) (by simp [results,Tryz.results128,go_sem, *]) rfl ⟨aR u 64,aY u 64,false,rfl,.inr ⟨rfl,HD.out⟩,hW9⟩
  ·have HD:Hid (dx k (bl s)=none):=nR (by rw [← hbx]; exact hsplit) hat
   have hwh:(aR u 64).size=u.size:=by unfold aR; rw [← ap,bM,← ap]; exact qB.2 hat
   have d3:(((aR u 64).size:Int) == (u.size:Int))=true:=by rw [hwh]; simp
   clear hpre hsplit hbu hat hbx hwh
   go_enter Tryz.func128,Tryz.ntmps128
   go_wp2_with fail
   generalize w.alloc (.cells #[sQ ⟨#[]⟩,sQ ⟨#[]⟩] 62)=W at b1 L1 ⊢
   generalize hg:w.heap.size=g at L1 ⊢
   refine (HN.out _).mono ?_
   rintro e w2 ⟨rfl,hb2⟩
   go_wp2_with fail
   refine (HSp.out _).mono ?_
   rintro e w3 ⟨A3,c3,rfl,hO3,hb3⟩
   obtain ⟨g3,rfl,x0,hg3,hg3'⟩:=HFirst.out _ _ _ _ hO3
   have hb13:=ar hb2 hb3
   have L3:=L1.below hb13 L1.lt
   clear hO3
   go_wp2_with fail
   rw [← HU.out]
   refine (HSu.out _).mono ?_
   rintro e w4 ⟨A4,c4,rfl,hO4,hb4⟩
   obtain ⟨g4,rfl,x1,hg4,hg4'⟩:=HFirstU.out _ _ _ _ hO4
   have hb14:=ar hb13 hb4
   have L4:=L3.below hb4 L3.lt
   clear hO4
   have c0:=L4.cell 0
   have c1:=L4.cell 1
   have f0:=L4.frozen 0
   have f1:=L4.frozen 1
   have hgl:=L4.lt
   simp only [List.getElem?_cons_zero,List.getElem?_cons_succ] at c0 c1
   clear L1 L4
   go_wp2_with fail
   refine bodyPost_ret (v:=.tuple #[.agg #[sQ ⟨#[]⟩,sQ ⟨#[]⟩],.bool false]) (by simp [results,Tryz.results128,go_sem, *]) rfl ⟨⟨#[]⟩,⟨#[]⟩,false,rfl,.inr ⟨rfl,HD.out⟩, ?_⟩
   rw [← hg] at *
   exact (ar b1 hb14).trans (by repeat (first | exact Below.refl _ _ | refine Below.alloc ?_ (by simp; have:=b1.size; have:=hb14.size; omega) _ | refine Below.setCell ?_ (by simp) _))
 ·have HD:Hid (dx k (bl s)=none):=m9 (by rw [← hbx]; exact hpre)
  by_cases hsz:x.size < p.size
  ·have d1:decide ((x.size:Int) < (t.size:Int)+1)=true:=decide_eq_true (by omega)
   clear hpre hbx hp hsz
   go_enter Tryz.func128,Tryz.ntmps128
   go_wp2_with fail
   generalize w.alloc (.cells #[sQ ⟨#[]⟩,sQ ⟨#[]⟩] 62)=W at b1 L1 ⊢
   generalize hg:w.heap.size=g at L1 ⊢
   refine (HN.out _).mono ?_
   rintro e w2 ⟨rfl,hb2⟩
   go_wp2_with fail
   refine (HSp.out _).mono ?_
   rintro e w3 ⟨A3,c3,rfl,hO3,hb3⟩
   obtain ⟨g3,rfl,x0,hg3,hg3'⟩:=HFirst.out _ _ _ _ hO3
   have hb13:=ar hb2 hb3
   have L3:=L1.below hb13 L1.lt
   clear hO3
   have c0:=L3.cell 0
   have c1:=L3.cell 1
   have f0:=L3.frozen 0
   have f1:=L3.frozen 1
   have hgl:=L3.lt
   simp only [List.getElem?_cons_zero,List.getElem?_cons_succ] at c0 c1
   clear L1 L3
   go_wp2_with fail
   refine bodyPost_ret (v:=.tuple #[.agg #[sQ ⟨#[]⟩,sQ ⟨#[]⟩],.bool false]) (by simp [results,Tryz.results128,go_sem, *]) rfl ⟨⟨#[]⟩,⟨#[]⟩,false,rfl,.inr ⟨rfl,HD.out⟩, ?_⟩
   rw [← hg] at *
   exact (ar b1 hb13).trans (by repeat (first | exact Below.refl _ _ | refine Below.alloc ?_ (by simp; have:=b1.size; have:=hb13.size; omega) _ | refine Below.setCell ?_ (by simp) _))
  ·have d1:decide ((x.size:Int) < (t.size:Int)+1)=false:=decide_eq_false (by omega)
   have d2:((x.extract 0 (t.size+1)).toList == (t++⟨#[32]⟩).toList)=false:=by
    rw [jW]; refine decide_eq_false fun e=>hpre ?_
    rw [HPre.out,bE,List.drop_zero] at e
    rw [← e]; exact List.take_prefix _ _
   have i1:(t.size:Int)+1≤(x.size:Int):=by omega
   clear hpre hbx hp hsz
   go_enter Tryz.func128,Tryz.ntmps128
   go_wp2_with fail
   generalize w.alloc (.cells #[sQ ⟨#[]⟩,sQ ⟨#[]⟩] 62)=W at b1 L1 ⊢
   generalize hg:w.heap.size=g at L1 ⊢
   refine (HN.out _).mono ?_
   rintro e w2 ⟨rfl,hb2⟩
   go_wp2_with fail
   refine (HSp.out _).mono ?_
   rintro e w3 ⟨A3,c3,rfl,hO3,hb3⟩
   obtain ⟨g3,rfl,x0,hg3,hg3'⟩:=HFirst.out _ _ _ _ hO3
   have hb13:=ar hb2 hb3
   have L3:=L1.below hb13 L1.lt
   clear hO3
   have c0:=L3.cell 0
   have c1:=L3.cell 1
   have f0:=L3.frozen 0
   have f1:=L3.frozen 1
   have hgl:=L3.lt
   simp only [List.getElem?_cons_zero,List.getElem?_cons_succ] at c0 c1
   clear L1 L3
   go_wp2_with fail
   refine bodyPost_ret (v:=.tuple #[.agg #[sQ ⟨#[]⟩,sQ ⟨#[]⟩],.bool false]) (by simp [results,Tryz.results128,go_sem, *]) rfl ⟨⟨#[]⟩,⟨#[]⟩,false,rfl,.inr ⟨rfl,HD.out⟩, ?_⟩
   rw [← hg] at *
   exact (ar b1 hb13).trans (by repeat (first | exact Below.refl _ _ | refine Below.alloc ?_ (by simp; have:=b1.size; have:=hb13.size; omega) _ | refine Below.setCell ?_ (by simp) _))
end Go.Proofs.YtoeoimhemojdeaaGreatDoor
