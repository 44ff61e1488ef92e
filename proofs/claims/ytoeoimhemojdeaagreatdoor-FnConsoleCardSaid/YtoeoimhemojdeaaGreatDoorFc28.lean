/- Lemmas. -/
import Derived.Test.YtoeoimhemojdeaaGreatDoorProg
import Derived.Test.YtoeoimhemojdeaaGreatDoorFc26

set_option linter.unusedVariables false
set_option linter.unusedSimpArgs false
set_option maxHeartbeats 8000000
open Go.Value renaming int → O, slice → F, string → vw
open Go.IntKind renaming i64 → U
open Go.Proofs.Tryz renaming prog → vx

namespace Go.Proofs.YtoeoimhemojdeaaGreatDoor
open Go.RowKit
theorem jm {c:UInt8} : ib c=true ↔ 32≤c.toNat∧c.toNat≤126∧c.toNat ≠ 35:=by
 unfold ib
 simp only [Bool.and_eq_true,decide_eq_true_eq,bne_iff_ne,ne_eq,and_assoc]
 constructor <;> (rintro ⟨h1,h2,h3⟩; refine ⟨h1,h2,fun h=>h3 ?_⟩)
 ·exact UInt8.toNat_inj.1 h
 ·rw [h]; rfl
theorem nw {s:ByteArray} {k:Nat} (h:k < s.size):bB ((bl s).drop k)=(ib s[k] && bB ((bl s).drop (k+1))):=by rw [kb h]; rfl
theorem pk (s:ByteArray) (m:Int) (w:World) (hs:s.size≤1000000000) :
  Calls vx 83 #[vw s,O U m] w fun e w'=>e=.returned (.bool (bB (bl s) && decide ((s.size:Int)≤m)))∧w=w':=by
 have HF:Hid (bB ((bl s).drop 0)=bB (bl s)):=rfl
 go_enter Tryz.func83,Tryz.ntmps83
 go_wp2
 go_loop [5] (fun i=>∃ k:Nat,k≤s.size∧i=O U k∧Hid (bB ((bl s).drop k)=bB (bl s))) (fun i=>s.size - (intOf i).toNat)
 case atStart=>exact ⟨0,Nat.zero_le _,rfl,HF⟩
 case round =>
  obtain ⟨k,hk,rfl,HR⟩:=hrel
  by_cases vH:k < s.size
  ·have HD:=jZ (nw vH)
   have u1:(s[k].toNat:Int)≤255:=by have:=UInt8.toNat_lt s[k]; omega
   cases hp:ib s[k]
   ·rw [hp] at HD
    have HN:Hid (bB (bl s)=false):=by rw [Hid,← HR.out,HD.out]; rfl
    by_cases h1:cc (s[k].toNat:Int) 32 126=true
    ·have h2:((s[k].toNat:Int) == 35)=true:=by
      rw [bQ] at h1
      have : ¬ (32≤s[k].toNat∧s[k].toNat≤126∧s[k].toNat ≠ 35):=fun h=>by rw [jm.2 h] at hp; cases hp
      simp; omega
     clear hp
     have H1:=jZ h1; clear h1
     go_wp2_with (go_at_call 134; refine (aH _ _ _ _).mono ?_; rw [H1.out]; rintro e w' ⟨rfl,rfl⟩)
     go_ret
     exact ⟨by rw [HN.out]; rfl,rfl⟩
    ·have h1' : cc (s[k].toNat:Int) 32 126=false:=by simpa using h1
     clear hp h1
     have H1:=jZ h1'; clear h1'
     go_wp2_with (go_at_call 134; refine (aH _ _ _ _).mono ?_; rw [H1.out]; rintro e w' ⟨rfl,rfl⟩)
     go_ret
     exact ⟨by rw [HN.out]; rfl,rfl⟩
   ·rw [hp] at HD
    rw [jm] at hp
    have H1:Hid (cc (s[k].toNat:Int) 32 126=true):=by rw [Hid,bQ]; omega
    have h2:((s[k].toNat:Int) == 35)=false:=by simp; omega
    clear hp
    go_wp2_with (go_at_call 134; refine (aH _ _ _ _).mono ?_; rw [H1.out]; rintro e w' ⟨rfl,rfl⟩)
    go_round
    case rel=>exact ⟨k+1,oM,by go_num,by have h:=HR.out; rw [HD.out] at h; exact h⟩
    case measure=>simp [intOf]; omega
  ·have HK:Hid (bB (bl s)=true):=by
    have h1:=HR.out
    rw [List.drop_eq_nil_of_le (by rw [ao]; omega)] at h1; exact h1.symm
   go_wp2
   go_ret
   exact ⟨by rw [HK.out]; rfl,rfl⟩
theorem mP (s:ByteArray) (w:World) (hs:s.size≤1000000000) :
  Calls vx 94 #[vw s] w fun e w'=>e=.returned (.bool (bB (bl s)))∧w=w':=by
 have HF:Hid (bB ((bl s).drop 0)=bB (bl s)):=rfl
 go_enter Tryz.func94,Tryz.ntmps94
 go_wp2
 go_loop [3,6] (fun _ i=>∃ k:Nat,k≤s.size∧i=O U k∧Hid (bB ((bl s).drop k)=bB (bl s))) (fun _ i=>s.size - (intOf i).toNat)
 case atStart=>exact ⟨0,Nat.zero_le _,rfl,HF⟩
 case round =>
  obtain ⟨k,hk,rfl,HR⟩:=hrel
  by_cases vH:k < s.size
  ·have HD:=jZ (nw vH)
   have u1:(s[k].toNat:Int)≤255:=by have:=UInt8.toNat_lt s[k]; omega
   cases hp:ib s[k]
   ·rw [hp] at HD
    have HN:Hid (bB (bl s)=false):=by rw [Hid,← HR.out,HD.out]; rfl
    have Kp:(s[k].toNat:Int) < 32 ∨ (32≤(s[k].toNat:Int)∧126 < (s[k].toNat:Int)) ∨ (32≤(s[k].toNat:Int)∧(s[k].toNat:Int)≤126∧(s[k].toNat:Int)=35):=by
     have : ¬ (32≤s[k].toNat∧s[k].toNat≤126∧s[k].toNat ≠ 35):=fun h=>by rw [jm.2 h] at hp; cases hp
     omega
    clear hp
    rcases Kp with h1 | ⟨h1,h2⟩ | ⟨h1,h2,h3⟩
    ·have d1:decide ((s[k].toNat:Int) < 32)=true:=jD h1
     clear h1
     go_wp2
     go_ret
     exact ⟨by rw [HN.out]; rfl,rfl⟩
    ·have d1:decide ((s[k].toNat:Int) < 32)=false:=jE oM
     have d2:decide (126 < (s[k].toNat:Int))=true:=jD h2
     clear h1 h2
     go_wp2
     go_ret
     exact ⟨by rw [HN.out]; rfl,rfl⟩
    ·have d1:decide ((s[k].toNat:Int) < 32)=false:=jE oM
     have d2:decide (126 < (s[k].toNat:Int))=false:=jE oM
     have d3:((s[k].toNat:Int) == 35)=true:=by simp [h3]
     clear h1 h2 h3
     go_wp2
     go_ret
     exact ⟨by rw [HN.out]; rfl,rfl⟩
   ·rw [hp] at HD
    rw [jm] at hp
    have d1:decide ((s[k].toNat:Int) < 32)=false:=jE oM
    have d2:decide (126 < (s[k].toNat:Int))=false:=jE oM
    have d3:((s[k].toNat:Int) == 35)=false:=by simp; omega
    clear hp
    go_wp2
    go_round
    case rel=>exact ⟨k+1,oM,by go_num,by have h:=HR.out; rw [HD.out] at h; exact h⟩
    case measure=>simp [intOf]; omega
  ·have HK:Hid (bB (bl s)=true):=by
    have h1:=HR.out
    rw [List.drop_eq_nil_of_le (by rw [ao]; omega)] at h1; exact h1.symm
   go_wp2
   go_ret
   exact ⟨by rw [HK.out]; rfl,rfl⟩
def fV (l:List UInt8) (b:UInt8):Bool:=l.contains b
theorem ud {s:ByteArray} {k:Nat} {b:UInt8} (h:k < s.size):fV ((bl s).drop k) b=(decide (s[k]=b) || fV ((bl s).drop (k+1)) b):=by
 unfold fV
 rw [kb h,List.contains_cons]
 congr 1
 rw [Bool.eq_iff_iff]; simp; exact eq_comm
theorem pn (s:ByteArray) (b:UInt8) (w:World) (hs:s.size≤1000000000) :
  Calls vx 84 #[vw s,.int .u8 b.toNat] w fun e w'=>e=.returned (.bool (fV (bl s) b))∧w=w':=by
 have HF:Hid (fV ((bl s).drop 0) b=fV (bl s) b):=rfl
 go_enter Tryz.func84,Tryz.ntmps84
 go_wp2
 go_loop [5] (fun i=>∃ k:Nat,k≤s.size∧i=O U k∧Hid (fV ((bl s).drop k) b=fV (bl s) b)) (fun i=>s.size - (intOf i).toNat)
 case atStart=>exact ⟨0,Nat.zero_le _,rfl,HF⟩
 case round =>
  obtain ⟨k,hk,rfl,HR⟩:=hrel
  by_cases vH:k < s.size
  ·have HD:=jZ (ud (b:=b) vH)
   have hq:=@uU s[k] b
   cases hp:decide (s[k]=b)
   ·rw [hp] at HD hq
    clear hp
    go_wp2
    go_round
    case rel=>exact ⟨k+1,oM,by go_num,by have h:=HR.out; rw [HD.out] at h; exact h⟩
    case measure=>simp [intOf]; omega
   ·rw [hp] at HD hq
    clear hp
    go_wp2
    go_ret
    exact ⟨by rw [← HR.out,HD.out]; rfl,rfl⟩
  ·have HK:Hid (fV (bl s) b=false):=by
    have h1:=HR.out
    rw [List.drop_eq_nil_of_le (by rw [ao]; omega)] at h1; exact h1.symm
   go_wp2
   go_ret
   exact ⟨by rw [HK.out]; rfl,rfl⟩
structure dq where
 c:ByteArray
 r:ByteArray
abbrev dq.val (e:dq):Value:=.agg #[vw e.c,vw e.r]
def dq.enc (e:dq):List Value:=[vw e.c,vw e.r]
theorem dq.enc_len (e:dq):e.enc.length=2:=rfl
def dq.ok (e:dq):Bool:=eN (bl e.c) (bl e.r)
theorem dq.ok_eq (e:dq):e.ok=(decide (1≤e.c.size) && decide (e.c.size≤160) && bB (bl e.c) && !fV (bl e.c) 64 && bB (bl e.r) && decide (e.r.size≤200)):=rfl
def po (s:ByteArray) (m:Int):Bool:=bB (bl s) && decide ((s.size:Int)≤m)
theorem rn (s:ByteArray) (m:Int) (w:World) (hs:s.size≤1000000000) :
  Calls vx 83 #[vw s,O U m] w fun e w'=>e=.returned (.bool (po s m))∧w=w':=pk s m w hs
theorem dq.ok_spec (e:dq):e.ok=(decide (1≤e.c.size) && po e.c 160 && !fV (bl e.c) 64 && po e.r 200):=by
 rw [dq.ok_eq]
 unfold po
 have e1:decide ((e.c.size:Int)≤160)=decide (e.c.size≤160):=by rw [Bool.eq_iff_iff]; simp; omega
 have e2:decide ((e.r.size:Int)≤200)=decide (e.r.size≤200):=by rw [Bool.eq_iff_iff]; simp; omega
 rw [e1,e2]
 cases decide (1≤e.c.size) <;> cases decide (e.c.size≤160) <;> cases bB (bl e.c) <;> cases fV (bl e.c) 64 <;> cases bB (bl e.r) <;> simp
theorem dq.ok_impl (e:dq):e.ok=(cc e.c.size 1 160 && decide ((e.r.size:Int)≤200) && bB (bl e.c) && bB (bl e.r) && !fV (bl e.c) 64):=by
 rw [dq.ok_eq]
 have e1:cc e.c.size 1 160=(decide (1≤e.c.size) && decide (e.c.size≤160)):=by rw [Bool.eq_iff_iff]; simp [cc]; omega
 have e2:decide ((e.r.size:Int)≤200)=decide (e.r.size≤200):=by rw [Bool.eq_iff_iff]; simp; omega
 rw [e1,e2]
 cases decide (1≤e.c.size) <;> cases decide (e.c.size≤160) <;> cases bB (bl e.c) <;> cases bB (bl e.r) <;> cases fV (bl e.c) 64 <;> simp
theorem kA (s:ByteArray) (b:UInt8) (w:World):Calls vx 95 #[vw s,vw ⟨#[b]⟩] w fun e w'=>e=.returned (.bool (fV (bl s) b))∧w=w':=by
 refine (Tryz.strings_Contains_one s b w).mono ?_
 rintro e w' ⟨rfl,rfl⟩
 refine ⟨?_,rfl⟩
 congr 2
 unfold fV
 rw [← pf]
 unfold Lib.contains
 rw [Bool.eq_iff_iff]
 simp only [decide_eq_true_eq]
 have h1:Lib.indexByte (bl s) b=Lib.index (bl s) [b]:=by
  rcases jk (bl s) b with ⟨hn,e⟩ | ⟨hy,e⟩
  ·rw [e]
   rcases h:Lib.indexByte (bl s) b with n | n
   ·exfalso; exact hn (List.mem_of_getElem? (Lib.indexByte_some (o:=n) h).1)
   ·have:=Lib.indexByte_ge (bl s) b; rw [h] at this; omega
  ·rw [e]
   have we:=Lib.indexByte_ge (bl s) b
   rcases Int.lt_or_le (Lib.indexByte (bl s) b) 0 with vH | Hr
   ·have:Lib.indexByte (bl s) b = -1:=oM
    have h2:=Lib.indexByte_none this
    obtain ⟨k,hk,Eg⟩:=List.getElem_of_mem hy
    exact absurd (by rw [List.getElem?_eq_getElem hk,Eg]) (h2 k)
   ·obtain ⟨n,hn⟩:=Int.eq_ofNat_of_zero_le Hr
    obtain ⟨h3,h4⟩:=Lib.indexByte_some hn
    rw [hn]
    have hp:=cP hy
    have h5:(bl s)[(cw b (bl s)).length]?=some b:=by
     have:(cw b (bl s)++b :: (bl s).drop ((cw b (bl s)).length+1))[(cw b (bl s)).length]?=some b:=sP
     rwa [← hp] at this
    rcases Nat.lt_trichotomy n (cw b (bl s)).length with vH | yv | yW
    ·exfalso
     have h6:(cw b (bl s))[n]?=some b:=by
      have:(cw b (bl s)++b :: (bl s).drop ((cw b (bl s)).length+1))[n]?=some b:=by rw [← hp]; exact h3
      rwa [List.getElem?_append_left vH] at this
     exact fy b (bl s) (List.mem_of_getElem? h6)
    ·rw [yv]
    ·exact absurd h5 (h4 _ yW)
 rw [show s.data.toList=bl s from rfl,h1]
theorem gE (e:dq) (w:World) (h1:e.c.size≤1000000000) (h2:e.r.size≤1000000000) :
  Calls vx 46 #[e.val] w fun en w'=>en=.returned (.bool e.ok)∧Below w.heap.size w w':=by
 have hb0:=bZ w (.cells #[vw e.c,vw e.r] 62)
 have HO:=jZ e.ok_spec
 by_cases h0:1≤e.c.size
 ·have n1:=oH h0
  have n2:(e.c.toList.isEmpty)=false:=by simpa using n1
  have H0:Hid (decide (1≤e.c.size)=true):=jD h0
  clear h0
  go_enter Tryz.func46,Tryz.ntmps46
  go_wp2_with (first | (go_at_call 83; refine (rn _ _ _ (by assumption)).mono ?_; rintro e w' ⟨rfl,rfl⟩) | (go_at_call 84; refine (pn _ 64 _ (by assumption)).mono ?_; rintro e w' ⟨rfl,rfl⟩))
  all_goals (go_ret; exact ⟨by rw [HO.out,H0.out]; simp [*],hb0⟩)
 ·have n1:=oG h0
  have n2:(e.c.toList.isEmpty)=true:=by simp [n1]
  have H0:Hid (decide (1≤e.c.size)=false):=jE h0
  clear h0
  go_enter Tryz.func46,Tryz.ntmps46
  go_wp2
  go_ret
  exact ⟨by rw [HO.out,H0.out]; rfl,hb0⟩
theorem fi (e:dq) (w:World) (h1:e.c.size≤1000000000) (h2:e.r.size≤1000000000) :
  Calls vx 51 #[e.val] w fun en w'=>en=.returned (.bool e.ok)∧Below w.heap.size w w':=by
 have hb0:=bZ w (.cells #[vw e.c,vw e.r] 62)
 have HO:=jZ e.ok_impl
 go_enter Tryz.func51,Tryz.ntmps51
 go_wp2_with (first | (go_at_call 75; refine (aM _ _ _ _).mono ?_; rintro e w' ⟨rfl,rfl⟩) | (go_at_call 94; refine (mP _ _ (by assumption)).mono ?_; rintro e w' ⟨rfl,rfl⟩) | (go_at_call 95; refine (kA _ 64 _).mono ?_; rintro e w' ⟨rfl,rfl⟩))
 all_goals (go_ret; refine ⟨?_,hb0⟩; rw [HO.out]; simp [*] <;> omega)
theorem qq {s:ByteArray} {k h:Nat} (hk:k < s.size):gL h ((bl s).drop k)=gL ((41 * h+s[k].toNat+1) % 999979) ((bl s).drop (k+1)):=by rw [kb hk]; rfl
theorem sO (s:ByteArray) (w:World) (hs:s.size≤1000000000) :
  Calls vx 179 #[vw s] w fun e w'=>e=.returned (O U (jl (bl s)))∧w=w':=by
 have HF:Hid (gL 7 ((bl s).drop 0)=jl (bl s)):=rfl
 go_enter Tryz.func179,Tryz.ntmps179
 go_wp2
 go_loop [3,4] (fun n i=>∃ k h:Nat,k≤s.size∧i=O U k∧n=O U h∧h < 999979∧Hid (gL h ((bl s).drop k)=jl (bl s))) (fun _ i=>s.size - (intOf i).toNat)
 case atStart=>exact ⟨0,7,Nat.zero_le _,rfl,rfl,oM,HF⟩
 case round =>
  obtain ⟨k,h,hk,rfl,rfl,hh,HR⟩:=hrel
  by_cases vH:k < s.size
  ·have HD:=jZ (qq (h:=h) vH)
   have u1:(s[k].toNat:Int)≤255:=by have:=UInt8.toNat_lt s[k]; omega
   have HM:Hid ((41 * (h:Int)+(s[k].toNat:Int)+1) % 999979=(((41 * h+s[k].toNat+1) % 999979:Nat):Int)):=by unfold Hid; omega
   have HB:Hid ((41 * h+s[k].toNat+1) % 999979 < 999979):=Nat.mod_lt _ oM
   have e1:(41 * (h:Int)+(s[k].toNat:Int)+1).tmod 999979=(41 * (h:Int)+(s[k].toNat:Int)+1) % 999979:=Int.tmod_eq_emod_of_nonneg oM
   go_wp2
   go_round
   case rel=>exact ⟨k+1,(41 * h+s[k].toNat+1) % 999979,oM,by go_num,congrArg _ HM.out,HB.out,by have h1:=HR.out; rw [HD.out] at h1; exact h1⟩
   case measure=>simp [intOf]; omega
  ·have HK:Hid (h=jl (bl s)):=by
    have h1:=HR.out
    rw [List.drop_eq_nil_of_le (by rw [ao]; omega)] at h1; exact h1
   go_wp2
   go_ret
   exact ⟨by rw [← HK.out]; rfl,rfl⟩
theorem pq (s:ByteArray) (w:World) (hs:s.size≤1000000000) :
  Calls vx 187 #[vw s] w fun e w'=>e=.returned (.tuple #[O U (if s.size≤4000 then (jl (bl s):Int) else 0),.bool (decide (s.size≤4000))])∧w=w':=by
 by_cases h4:s.size≤4000
 ·have d4:decide (4000 < (s.size:Int))=false:=jE oM
  have HF:Hid (gL 7 ((bl s).drop 0)=jl (bl s)):=rfl
  rw [if_pos h4,jD h4]
  have H4:=jZ h4
  go_enter Tryz.func187,Tryz.ntmps187
  go_wp2
  go_loop [4,5,11] (fun n _ i=>∃ k h:Nat,k≤s.size∧i=O U k∧n=O U h∧h < 999979∧Hid (gL h ((bl s).drop k)=jl (bl s))) (fun _ _ i=>s.size - (intOf i).toNat)
  case atStart=>exact ⟨0,7,Nat.zero_le _,rfl,rfl,oM,HF⟩
  case round =>
   obtain ⟨k,h,hk,rfl,rfl,hh,HR⟩:=hrel
   by_cases vH:k < s.size
   ·have HD:=jZ (qq (h:=h) vH)
    have u1:(s[k].toNat:Int)≤255:=by have:=UInt8.toNat_lt s[k]; omega
    have HM:Hid ((41 * (h:Int)+(s[k].toNat:Int)+1) % 999979=(((41 * h+s[k].toNat+1) % 999979:Nat):Int)):=by unfold Hid; omega
    have HB:Hid ((41 * h+s[k].toNat+1) % 999979 < 999979):=Nat.mod_lt _ oM
    have e1:(41 * (h:Int)+(s[k].toNat:Int)+1).tmod 999979=(41 * (h:Int)+(s[k].toNat:Int)+1) % 999979:=Int.tmod_eq_emod_of_nonneg oM
    go_wp2
    go_round
    case rel=>exact ⟨k+1,(41 * h+s[k].toNat+1) % 999979,oM,by go_num,congrArg _ HM.out,HB.out,by have h1:=HR.out; rw [HD.out] at h1; exact h1⟩
    case measure=>simp [intOf]; omega
   ·have HK:Hid (h=jl (bl s)):=by
     have h1:=HR.out
     rw [List.drop_eq_nil_of_le (by rw [ao]; omega)] at h1; exact h1
    go_wp2
    go_ret2
    exact ⟨by rw [← HK.out]; rfl,rfl⟩
 ·have d4:decide (4000 < (s.size:Int))=true:=jD oM
  rw [if_neg h4,jE h4]
  clear h4
  go_enter Tryz.func187,Tryz.ntmps187
  go_wp2
  go_ret2
  exact ⟨rfl,rfl⟩
theorem rq {s:ByteArray} {l:List UInt8} (h:bl s=l):Ending.returned (vw s)=.returned (vw ⟨l.toArray⟩):=by rw [dW h]
theorem rr (s:ByteArray) (w:World) (hs:s.size≤1000000000) :
  Calls vx 144 #[vw s] w fun e w'=>e=.returned (vw ⟨(ez (bl s)).toArray⟩)∧Below w.heap.size w w':=by
 have hl:=ph (bl s)
 have HS:=jZ (fun W=>sO s W hs)
 have HN:=jZ (fun W=>cn (jl (bl s):Int) W oM oM)
 have wH:(⟨(Lib.itoa (jl (bl s):Int)).toArray⟩ : ByteArray).size≤100:=cE oM oM
 obtain ⟨t,ht⟩ : ∃ t:ByteArray,t=⟨(Lib.itoa (jl (bl s):Int)).toArray⟩:=⟨_,rfl⟩
 rw [← ht] at HN wH
 have HT:Hid (bl t=Lib.itoa (jl (bl s):Int)):=by rw [ht,Hid,bL]
 clear ht
 go_enter Tryz.func144,Tryz.ntmps144
 go_wp2_with (first | (go_at_call 179; refine (HS.out _).mono ?_; rintro e w' ⟨rfl,rfl⟩) | (go_at_call 71; refine (HN.out _).mono ?_; rintro e w1 ⟨rfl,vD⟩))
 go_ret
 exact ⟨rq (by rw [dk,dk,HT.out]; unfold ez; simp [lM]),vD⟩
theorem mw (k:Nat) (e:dq) (w:World) (hk:k≤1000) (h1:e.c.size≤1000000) (h2:e.r.size≤1000000) :
  Calls vx 90 #[O U k,e.val] w fun en w'=>en=.returned (vw ⟨(bO k (bl e.c) (bl e.r)).toArray⟩)∧Below w.heap.size w w':=by
 have b1:=bZ w (.cells #[vw e.c,vw e.r] 62)
 have L1:=ah.new w 62 #[vw e.c,vw e.r]
 obtain ⟨t,ht⟩ : ∃ t:ByteArray,t=⟨(Lib.itoa (k:Int)).toArray⟩:=⟨_,rfl⟩
 have Eh:t.size≤100:=by rw [ht]; exact cE oM oM
 have HN:Hid (∀ W,Calls vx 71 #[O U k] W fun e w'=>e=.returned (vw t)∧Below W.heap.size W w'):=fun W=>by rw [ht]; exact cn (k:Int) W oM oM
 have HT:Hid (bl t=Lib.itoa (k:Int)):=by rw [ht,Hid,bL]
 clear ht
 obtain ⟨x,hx⟩ : ∃ x:ByteArray,x=t++⟨#[32]⟩++e.c++⟨#[64]⟩++e.r:=⟨_,rfl⟩
 have Ar:x.size≤3000000:=by rw [hx]; simp only [bg]; (have e1:(⟨#[32]⟩ : ByteArray).size=1:=rfl); (have e2:(⟨#[64]⟩ : ByteArray).size=1:=rfl); omega
 obtain ⟨z,hz⟩ : ∃ z:ByteArray,z=⟨(ez (bl x)).toArray⟩:=⟨_,rfl⟩
 have xf:z.size≤4000000:=by rw [← ao,hz,bL]; have:=lk (bl x); rw [ao] at this; omega
 have Hs:Hid (∀ W,Calls vx 144 #[vw (t++⟨#[32]⟩++e.c++⟨#[64]⟩++e.r)] W fun e w'=>e=.returned (vw z)∧Below W.heap.size W w'):=fun W=>by rw [hz,← hx]; exact rr x W oM
 have HF:Hid (bl (z++⟨#[10]⟩)=bO k (bl e.c) (bl e.r)):=by
  rw [Hid,dk,hz,bL,hx]
  unfold bO eK
  simp [dk,lM,HT.out]
 clear hz hx
 have z1:(⟨#[32]⟩ : ByteArray).size=1:=rfl
 have z2:(⟨#[64]⟩ : ByteArray).size=1:=rfl
 have z3:(⟨#[10]⟩ : ByteArray).size=1:=rfl
 go_enter Tryz.func90,Tryz.ntmps90
 go_wp2_with fail
 generalize w.alloc (.cells #[vw e.c,vw e.r] 62)=W at b1 L1 ⊢
 generalize hg:w.heap.size=g at L1 ⊢
 have c0:∀ p:ap W.heap.size W,p.val.cell? ⟨g,0,none⟩=some (vw e.c):=fun p=>(p.cell L1.lt).trans (L1.cell 0)
 have c1:∀ p:ap W.heap.size W,p.val.cell? ⟨g,1,none⟩=some (vw e.r):=fun p=>(p.cell L1.lt).trans (L1.cell 1)
 clear L1
 refine ar kZ kZ ?_
 repeat (any_goals (first | go_big_quiet_step ((first | (go_at_call 71; refine aQ nR (HN.out _)) | (go_at_call 144; refine aQ nR (Hs.out _)))) | (refine wpQuiet_step (fun K hK=>?_); go_simp; split <;> (refine hK _ ?_; clear hK K))))
 all_goals (refine wpQuiet_nil ?_; rintro _ ⟨q1,rfl⟩)
 go_wp2
 go_ret
 exact ⟨rq HF.out,by rw [← hg] at *; exact av b1 q1.below⟩
def fZ (s:ByteArray):Bool:=decide (s.size≤4000) && !fV (bl s) 35 && decide ((ez (bl s)).length≤4000)
def iK (s:ByteArray):ByteArray:=if fZ s then ⟨(ez (bl s)).toArray⟩ else ⟨#[]⟩
theorem ic (s:ByteArray) (w:World) (hs:s.size≤1000000000) (ht:iN w) :
  Calls vx 158 #[vw s] w fun e w'=>e=.returned (.tuple #[vw (iK s),.bool (fZ s)])∧Below w.heap.size w w':=by
 have HC:=jZ (fun W=>pq s W hs)
 by_cases h4:s.size≤4000
 ·rw [if_pos h4,jD h4] at HC
  have Fg:=jZ (kA s 35)
  cases hh:fV (bl s) 35
  ·rw [hh] at Fg
   have hl:=ph (bl s)
   obtain ⟨t,yh⟩ : ∃ t:ByteArray,t=⟨(Lib.itoa (jl (bl s):Int)).toArray⟩:=⟨_,rfl⟩
   have Eh:t.size≤100:=by rw [yh]; exact cE oM oM
   have HN:Hid (∀ W,iN W→Calls vx 69 #[O U (jl (bl s):Int)] W fun e w'=>e=.returned (vw t)∧Below W.heap.size W w'):=fun W hW=>by rw [yh]; exact dw _ W oM oM hW
   have HT:Hid (bl t=Lib.itoa (jl (bl s):Int)):=by rw [yh,Hid,bL]
   clear yh
   have z1:(⟨#[35]⟩ : ByteArray).size=1:=rfl
   have Fh:Hid (bl (s++⟨#[35]⟩++t)=ez (bl s)):=by
    rw [Hid,dk,dk,HT.out]; unfold ez; simp [lM]
   have zK:Hid ((s++⟨#[35]⟩++t).size=(ez (bl s)).length):=by rw [Hid,← ao,Fh.out]
   have HZ:Hid ((s++⟨#[35]⟩++t).size=s.size+1+t.size):=by rw [Hid,bg,bg]; rfl
   have HA:Hid (fZ s=decide ((ez (bl s)).length≤4000)):=by unfold fZ Hid; rw [hh,jD h4]; rfl
   clear hh h4
   by_cases h5:s.size+1+t.size≤4000
   ·have AH:Hid (fZ s=true):=by rw [Hid,HA.out,← zK.out,HZ.out]; exact jD h5
    have Dp:Hid (iK s=s++⟨#[35]⟩++t):=by unfold iK Hid; rw [AH.out,if_pos rfl]; exact (dW Fh.out).symm
    have d5:decide ((4000:Int) < (s.size:Int)+1+(t.size:Int))=false:=jE oM
    go_enter Tryz.func158,Tryz.ntmps158
    go_wp2_with (first | (go_at_call 187; refine (HC.out _).mono ?_; rintro e w' ⟨rfl,rfl⟩) | (go_at_call 95; refine (Fg.out _).mono ?_; rintro e w' ⟨rfl,rfl⟩) | (go_at_call 69; refine (HN.out _ (by assumption)).mono ?_; rintro e w1 ⟨rfl,vD⟩))
    go_ret2
    exact ⟨by rw [AH.out,Dp.out]; rfl,vD⟩
   ·have AH:Hid (fZ s=false):=by rw [Hid,HA.out,← zK.out,HZ.out]; exact jE h5
    have Dp:Hid (iK s=⟨#[]⟩):=by unfold iK Hid; rw [AH.out]; rfl
    have d5:decide ((4000:Int) < (s.size:Int)+1+(t.size:Int))=true:=jD oM
    go_enter Tryz.func158,Tryz.ntmps158
    go_wp2_with (first | (go_at_call 187; refine (HC.out _).mono ?_; rintro e w' ⟨rfl,rfl⟩) | (go_at_call 95; refine (Fg.out _).mono ?_; rintro e w' ⟨rfl,rfl⟩) | (go_at_call 69; refine (HN.out _ (by assumption)).mono ?_; rintro e w1 ⟨rfl,vD⟩))
    go_ret2
    exact ⟨by rw [AH.out,Dp.out]; rfl,vD⟩
  ·rw [hh] at Fg
   have AH:Hid (fZ s=false):=by unfold fZ Hid; rw [hh]; simp
   have Dp:Hid (iK s=⟨#[]⟩):=by unfold iK Hid; rw [AH.out]; rfl
   clear hh h4
   go_enter Tryz.func158,Tryz.ntmps158
   go_wp2_with (first | (go_at_call 187; refine (HC.out _).mono ?_; rintro e w' ⟨rfl,rfl⟩) | (go_at_call 95; refine (Fg.out _).mono ?_; rintro e w' ⟨rfl,rfl⟩))
   go_ret2
   exact ⟨by rw [AH.out,Dp.out]; rfl,Below.refl _ _⟩
 ·rw [if_neg h4,jE h4] at HC
  have AH:Hid (fZ s=false):=by unfold fZ Hid; rw [jE h4]; rfl
  have Dp:Hid (iK s=⟨#[]⟩):=by unfold iK Hid; rw [AH.out]; rfl
  clear h4
  go_enter Tryz.func158,Tryz.ntmps158
  go_wp2_with (first | (go_at_call 187; refine (HC.out _).mono ?_; rintro e w' ⟨rfl,rfl⟩))
  go_ret2
  exact ⟨by rw [AH.out,Dp.out]; rfl,Below.refl _ _⟩
theorem kF {l:List UInt8} {b:UInt8} : fV l b=false ↔ b ∉ l:=by unfold fV; simp
theorem oI {l:List UInt8} {b:UInt8} : fV l b=true ↔ b ∈ l:=by unfold fV; simp
theorem iW {s:ByteArray} : fZ s=true ↔ s.size≤4000∧(35:UInt8) ∉ bl s∧(ez (bl s)).length≤4000:=by
 unfold fZ; simp [Bool.and_eq_true,kF,and_assoc]
theorem lN (k:Nat) (e:dq) (w:World) (hk:k≤1000) (vF:e.ok=true) (ht:iN w) :
  Calls vx 100 #[O U k,e.val] w fun en w'=>en=.returned (vw ⟨(bO k (bl e.c) (bl e.r)).toArray⟩)∧Below w.heap.size w w':=by
 have b1:=bZ w (.cells #[vw e.c,vw e.r] 62)
 have L1:=ah.new w 62 #[vw e.c,vw e.r]
 have xk:=ht.then b1
 obtain ⟨_,h1,_,_,_,h2⟩:=cQ.1 vF
 rw [ao] at h1 h2
 obtain ⟨t,yh⟩ : ∃ t:ByteArray,t=⟨(Lib.itoa (k:Int)).toArray⟩:=⟨_,rfl⟩
 have Eh:t.size≤100:=by rw [yh]; exact cE oM oM
 have HN:Hid (∀ W,iN W→Calls vx 69 #[O U k] W fun e w'=>e=.returned (vw t)∧Below W.heap.size W w'):=fun W hW=>by rw [yh]; exact dw (k:Int) W oM oM hW
 have HT:Hid (bl t=Lib.itoa (k:Int)):=by rw [yh,Hid,bL]
 clear yh
 obtain ⟨x,hx⟩ : ∃ x:ByteArray,x=t++⟨#[32]⟩++e.c++⟨#[64]⟩++e.r:=⟨_,rfl⟩
 have Cr:bl x=eK k (bl e.c) (bl e.r):=by rw [hx]; unfold eK; simp [dk,lM,HT.out]
 have Fi:fZ x=true:=by
  rw [iW,Cr]
  have h3:=mX (k:=k) vF oM
  have h4:=lk (eK k (bl e.c) (bl e.r))
  exact ⟨by rw [← ao,Cr]; omega,fU vF,oM⟩
 obtain ⟨z,hz⟩ : ∃ z:ByteArray,z=⟨(ez (bl x)).toArray⟩:=⟨_,rfl⟩
 have xf:z.size≤4000:=by rw [← ao,hz,bL]; exact (iW.1 Fi).2.2
 have Ar:x.size≤4000:=(iW.1 Fi).1
 have Hs:Hid (∀ W,iN W→Calls vx 158 #[vw (t++⟨#[32]⟩++e.c++⟨#[64]⟩++e.r)] W fun e w'=>e=.returned (.tuple #[vw z,.bool true])∧Below W.heap.size W w'):=fun W hW=>by
  have:=ic x W oM hW
  rw [show iK x=z by unfold iK; rw [Fi,if_pos rfl,hz],Fi] at this
  rw [← hx]; exact this
 have HF:Hid (bl (z++⟨#[10]⟩)=bO k (bl e.c) (bl e.r)):=by
  rw [Hid,dk,hz,bL,Cr]
  unfold bO; simp [lM]
 clear hz hx Cr Fi vF
 have z1:(⟨#[32]⟩ : ByteArray).size=1:=rfl
 have z2:(⟨#[64]⟩ : ByteArray).size=1:=rfl
 have z3:(⟨#[10]⟩ : ByteArray).size=1:=rfl
 go_enter Tryz.func100,Tryz.ntmps100
 go_wp2_with fail
 generalize w.alloc (.cells #[vw e.c,vw e.r] 62)=W at b1 L1 xk ⊢
 generalize hg:w.heap.size=g at L1 ⊢
 have c0:∀ p:ap W.heap.size W,p.val.cell? ⟨g,0,none⟩=some (vw e.c):=fun p=>(p.cell L1.lt).trans (L1.cell 0)
 have c1:∀ p:ap W.heap.size W,p.val.cell? ⟨g,1,none⟩=some (vw e.r):=fun p=>(p.cell L1.lt).trans (L1.cell 1)
 clear L1
 refine ar kZ kZ ?_
 repeat (any_goals (first | go_big_quiet_step ((first | (go_at_call 69; refine aQ nR (HN.out _ (xk.at _))) | (go_at_call 158; refine aQ nR (Hs.out _ (xk.at _))))) | (refine wpQuiet_step (fun K hK=>?_); go_simp; split <;> (refine hK _ ?_; clear hK K))))
 all_goals (refine wpQuiet_nil ?_; rintro _ ⟨q1,rfl⟩)
 go_wp2
 go_ret
 exact ⟨rq HF.out,by rw [← hg] at *; exact av b1 q1.below⟩
open Classical in
noncomputable def ll (s:List UInt8):Option (List UInt8):=if h:∃ t,pG t s then some h.choose else none
theorem oJ {t s:List UInt8} (h:pG t s):ll s=some t:=by
 have yC:∃ t,pG t s:=⟨t,h⟩
 unfold ll
 rw [dif_pos yC]
 exact congrArg some (yC.choose_spec.inj h)
theorem lO {s:List UInt8} (h:∀ t,¬ pG t s):ll s=none:=by unfold ll; rw [dif_neg (fun ⟨t,ht⟩=>h t ht)]
theorem ue {t s:List UInt8} (h:ll s=some t):pG t s:=by
 by_cases yC:∃ t,pG t s
 ·unfold ll at h
  rw [dif_pos yC] at h
  have:=yC.choose_spec
  rw [Option.some.inj h] at this
  exact this
 ·unfold ll at h
  rw [dif_neg yC] at h; cases h
theorem qr {t s:List UInt8} (h:pG t s):Lib.lastIndex s [35]=t.length:=by rw [← h.2.1]; exact sM t
theorem uf {t s:List UInt8} (h:pG t s):s.take t.length=t:=by rw [← h.2.1]; unfold ez; exact List.take_left' rfl
def uI:Option (List UInt8)→ByteArray
 | some t=>⟨t.toArray⟩
 | none=>⟨#[]⟩
theorem lm (a b:ByteArray):(a.toList == b.toList)=decide (bl a=bl b):=by
 rw [vm,vm,Bool.eq_iff_iff]; simp
theorem rt (s:ByteArray) (w:World) (hs:s.size≤1000000000) (ht:iN w) :
  Calls vx 169 #[vw s] w fun e w'=>e=.returned (.tuple #[vw (uI (ll (bl s))),.bool (ll (bl s)).isSome])∧Below w.heap.size w w':=by
 have HL:Hid (∀ W,Calls vx 194 #[vw s,vw ⟨#[35]⟩] W fun e w'=>e=.returned (O U (Lib.lastIndex (bl s) [35]))∧w'=W):=fun W=>Tryz.strings_LastIndex s ⟨#[35]⟩ oM W
 rcases qi (bl s) 35 with h1 | ⟨i,h1,h2,h3⟩
 ·have HV:Hid (ll (bl s)=none):=lO fun t hv=>by have:=qr hv; omega
  rw [h1] at HL
  clear h1
  go_enter Tryz.func169,Tryz.ntmps169
  go_wp2_with (go_at_call 194; refine (HL.out _).mono ?_; rintro e w' ⟨rfl,rfl⟩)
  go_ret2
  exact ⟨by rw [HV.out]; rfl,Below.refl _ _⟩
 ·rw [h1] at HL
  have hi:i < s.size:=h2
  obtain ⟨t,yh⟩ : ∃ t:ByteArray,t=s.extract 0 i:=⟨_,rfl⟩
  have yK:bl t=(bl s).take i:=by rw [yh,bE]; simp
  have HC:Hid (∀ W,iN W→Calls vx 158 #[vw (s.extract 0 i)] W fun e w'=>e=.returned (.tuple #[vw (iK t),.bool (fZ t)])∧Below W.heap.size W w'):=fun W hW=>by
   rw [← yh]; exact ic t W (by rw [← ao,yK,List.length_take,ao]; omega) hW
  have BA:Hid (∀ t',pG t' (bl s)→t'=bl t∧fZ t=true∧iK t=s):=fun t' hv=>by
   have e1:=qr hv
   have e2:t'.length=i:=oM
   have e3:=uf hv
   rw [e2,← yK] at e3
   subst e3
   have e4:fZ t=true:=iW.2 ⟨by rw [← ao]; exact hv.2.2.1,hv.1,by rw [hv.2.1]; exact hv.2.2.2⟩
   refine ⟨rfl,e4, ?_⟩
   unfold iK
   rw [e4,if_pos rfl,hv.2.1]
   exact (dW rfl).symm
  have Cu:Hid (fZ t=true→bl (iK t)=bl s→pG (bl t) (bl s)):=fun h5 h6=>by
   obtain ⟨a1,a2,a3⟩:=iW.1 h5
   have a4:bl (iK t)=ez (bl t):=by unfold iK; rw [h5,if_pos rfl,bL]
   exact ⟨a2,by rw [← a4]; exact h6,by rw [ao]; exact a1,by rw [← h6,a4]; exact a3⟩
  clear h1 h2 h3
  cases vF:fZ t
  ·have HV:Hid (ll (bl s)=none):=lO fun t' hv=>by have:=(BA.out t' hv).2.1; rw [vF] at this; cases this
   rw [vF] at HC
   clear vF BA Cu yh yK
   go_enter Tryz.func169,Tryz.ntmps169
   go_wp2_with (first | (go_at_call 194; refine (HL.out _).mono ?_; rintro e w' ⟨rfl,rfl⟩) | (go_at_call 158; refine (HC.out _ (by assumption)).mono ?_; rintro e w1 ⟨rfl,vD⟩))
   go_ret2
   exact ⟨by rw [HV.out]; rfl,vD⟩
  ·rw [vF] at HC
   have vJ:=lm (iK t) s
   by_cases yv:bl (iK t)=bl s
   ·have HV:Hid (ll (bl s)=some (bl t)):=oJ (Cu.out vF yv)
    have HT:Hid (uI (some (bl t))=s.extract 0 i):=by unfold uI Hid; rw [← yh]; exact (dW rfl).symm
    rw [jD yv] at vJ
    clear vF BA Cu yh yK yv
    generalize iK t=at' at HC vJ
    go_enter Tryz.func169,Tryz.ntmps169
    go_wp2_with (first | (go_at_call 194; refine (HL.out _).mono ?_; rintro e w' ⟨rfl,rfl⟩) | (go_at_call 158; refine (HC.out _ (by assumption)).mono ?_; rintro e w1 ⟨rfl,vD⟩))
    go_ret2
    exact ⟨by rw [HV.out,HT.out]; rfl,vD⟩
   ·have HV:Hid (ll (bl s)=none):=lO fun t' hv=>by have:=(BA.out t' hv).2.2; exact yv (by rw [this])
    rw [jE yv] at vJ
    clear vF BA Cu yh yK yv
    generalize iK t=at' at HC vJ
    go_enter Tryz.func169,Tryz.ntmps169
    go_wp2_with (first | (go_at_call 194; refine (HL.out _).mono ?_; rintro e w' ⟨rfl,rfl⟩) | (go_at_call 158; refine (HC.out _ (by assumption)).mono ?_; rintro e w1 ⟨rfl,vD⟩))
    go_ret2
    exact ⟨by rw [HV.out]; rfl,vD⟩
theorem nx (l:List UInt8) (b:UInt8):(b ∉ l∧Lib.indexByte l b = -1) ∨ (b ∈ l∧Lib.indexByte l b=(cw b l).length):=by
 induction l with
 | nil=>exact .inl ⟨sP,rfl⟩
 | cons x l ih =>
  unfold Lib.indexByte cw
  by_cases h:x=b
  ·subst h; exact .inr ⟨sP,sP⟩
  ·have h' : (x == b)=false:=by simp [h]
   rw [if_neg (by simp [h]),if_neg h]
   rcases ih with ⟨h1,h2⟩ | ⟨h1,h2⟩
   ·exact .inl ⟨by simp only [List.mem_cons,not_or]; exact ⟨Ne.symm h,h1⟩,by rw [h2]; rfl⟩
   ·refine .inr ⟨by simp [h1], ?_⟩
    rw [h2,if_neg sP]; simp
def aV (s:ByteArray) (b:UInt8):ByteArray:=⟨(cw b (bl s)).toArray⟩
def ba (s:ByteArray) (b:UInt8):ByteArray:=⟨((bl s).drop ((cw b (bl s)).length+1)).toArray⟩
theorem ru (s:ByteArray) (b:UInt8) (w:World) (hs:s.size≤1000000000) :
  Calls vx 196 #[vw s,vw ⟨#[b]⟩] w fun e w'=>e=.returned (.tuple #[vw (aV s b),vw (ba s b),.bool (fV (bl s) b)])∧Below w.heap.size w w':=by
 have HI:=jZ (fun W=>Tryz.stringslite_Index_one s b W)
 have hb:=li b (bl s)
 rw [ao] at hb
 rcases nx (bl s) b with ⟨h1,h2⟩ | ⟨h1,h2⟩
 ·rw [show s.data.toList=bl s from rfl,h2] at HI
  have HL:Hid (aV s b=s):=by unfold aV Hid; rw [lh h1]; exact (dW rfl).symm
  have HR:Hid (ba s b=⟨#[]⟩):=by unfold ba Hid; rw [lh h1,List.drop_eq_nil_of_le oM]
  have HF:Hid (fV (bl s) b=false):=kF.2 h1
  clear h1 h2
  go_enter Tryz.func196,Tryz.ntmps196
  go_wp2_with (go_at_call 180; refine (HI.out _).mono ?_; rintro e w' ⟨rfl,rfl⟩)
  go_ret3
  exact ⟨by rw [HL.out,HR.out,HF.out]; rfl,Below.refl _ _⟩
 ·rw [show s.data.toList=bl s from rfl,h2] at HI
  have hp:=congrArg List.length (cP h1)
  rw [ao] at hp
  simp only [List.length_append,List.length_cons,List.length_drop,ao] at hp
  have HF:Hid (fV (bl s) b=true):=oI.2 h1
  obtain ⟨n,hn⟩ : ∃ n,n=(cw b (bl s)).length:=⟨_,rfl⟩
  have HL:Hid (aV s b=s.extract 0 n):=by
   unfold aV Hid; refine (dW ?_).symm
   rw [bE,hn,nl]; simp
  have HR:Hid (ba s b=s.extract (n+1) s.size):=by
   unfold ba Hid; refine (dW ?_).symm
   rw [bE,hn,List.take_of_length_le (by rw [ao]; omega)]
  rw [← hn] at HI hp hb
  have z1:(⟨#[b]⟩ : ByteArray).size=1:=rfl
  have ym:n+1≤s.size:=oM
  have i0:(0:Int)≤(n:Int):=oM
  have i1:(n:Int)≤(s.size:Int):=oM
  have i2:(n:Int)+1≤(s.size:Int):=oM
  have i3:IntKind.i64.wrap ((n:Int)+1)=(n:Int)+1:=IntWalk.i64_in _ oM
  clear hn hp h1 h2
  go_enter Tryz.func196,Tryz.ntmps196
  go_wp2_with (go_at_call 180; refine (HI.out _).mono ?_; rintro e w' ⟨rfl,rfl⟩)
  refine ar kZ kZ ?_
  repeat (any_goals (first | go_big_quiet_step ((fail)) | (refine wpQuiet_step (fun K hK=>?_); go_simp; split <;> (refine hK _ ?_; clear hK K))))
  all_goals (refine wpQuiet_nil ?_; rintro _ ⟨q1,rfl⟩)
  go_wp2
  go_ret3
  exact ⟨by rw [HL.out,HR.out,HF.out]; rfl,q1.below⟩
theorem pr (s:ByteArray) (b:UInt8) (w:World) (hs:s.size≤1000000000) :
  Calls vx 171 #[vw s,vw ⟨#[b]⟩] w fun e w'=>e=.returned (.tuple #[vw (aV s b),vw (ba s b),.bool (fV (bl s) b)])∧Below w.heap.size w w':=by
 have HC:=jZ (fun W=>ru s b W hs)
 go_enter Tryz.func171,Tryz.ntmps171
 go_wp2_with (go_at_call 196; refine (HC.out _).mono ?_; rintro e w1 ⟨rfl,vD⟩)
 go_ret3
 exact ⟨rfl,vD⟩
def vg (k:Nat) (s:ByteArray) (a b:ByteArray) (ok:Bool):Prop:=(ok=true∧dU k (bl s)=some (bl a,bl b)) ∨ (ok=false∧dU k (bl s)=none)
def ny (k:Nat) (s:ByteArray) (w:World) (e:Ending) (w' : World):Prop:=∃ a b ok,e=.returned (.tuple #[.agg #[vw a,vw b],.bool ok])∧vg k s a b ok∧Below w.heap.size w w'
theorem qs {p t:List UInt8} (h:p <+: t):t=p++t.drop p.length:=by
 obtain ⟨u,rfl⟩:=h; simp
set_option maxRecDepth 100000 in
theorem lP (k:Nat) (s:ByteArray) (w:World) (hk:k≤1000) (hs:s.size≤3000000) (ht:iN w) :
  Calls vx 123 #[O U k,vw s] w (ny k s w):=by
 have b1:=bZ w (.cells #[vw ⟨#[]⟩,vw ⟨#[]⟩] 62)
 have L1:=ah.new w 62 #[vw ⟨#[]⟩,vw ⟨#[]⟩]
 have xk:=ht.then b1
 have Cm:k≤9223372036854775807:=oM
 obtain ⟨t,yh⟩ : ∃ t:ByteArray,t=⟨(Lib.itoa (k:Int)).toArray⟩:=⟨_,rfl⟩
 have Eh:t.size≤100:=by rw [yh]; exact cE oM oM
 have HN:Hid (∀ W,iN W→Calls vx 69 #[O U k] W fun e w'=>e=.returned (vw t)∧Below W.heap.size W w'):=fun W hW=>by rw [yh]; exact dw (k:Int) W oM oM hW
 have HT:Hid (bl t=Lib.itoa (k:Int)):=by rw [yh,Hid,bL]
 have Ac:Hid (bl (t++⟨#[32]⟩)=Lib.itoa (k:Int)++[32]):=by rw [Hid,dk,HT.out]; rfl
 clear yh
 have z1:(⟨#[32]⟩ : ByteArray).size=1:=rfl
 have HV:=jZ (fun W hW=>rt s W oM hW)
 cases hv:ll (bl s) with
 | none =>
  rw [hv] at HV
  have HD:Hid (dU k (bl s)=none):=rk Cm fun u hu=>by rw [oJ hu] at hv; cases hv
  have Dq:Hid (∀ W,Calls vx 170 #[vw ⟨#[]⟩,vw (t++⟨#[32]⟩)] W fun e w'=>e=.returned (.tuple #[vw ⟨#[]⟩,.bool false])∧w'=W):=fun W=>by
   have h1:=Tryz.strings_CutPrefix ⟨#[]⟩ (t++⟨#[32]⟩) W
   have h2:Lib.hasPrefix (⟨#[]⟩ : ByteArray).data.toList (t++⟨#[32]⟩ : ByteArray).data.toList=false:=by
    unfold Lib.hasPrefix
    have:(t++⟨#[32]⟩ : ByteArray).data.toList=Lib.itoa (k:Int)++[32]:=Ac.out
    rw [this]
    cases Lib.itoa (k:Int) <;> rfl
   unfold Lib.trimPrefix at h1
   rw [h2] at h1
   exact h1
  have Ad:=jZ (fun W=>pr ⟨#[]⟩ 64 W dD)
  have e1:aV ⟨#[]⟩ 64=⟨#[]⟩:=rfl
  have e2:ba ⟨#[]⟩ 64=⟨#[]⟩:=rfl
  have e3:fV (bl ⟨#[]⟩) 64=false:=rfl
  rw [e1,e2,e3] at Ad
  clear e1 e2 e3 hv
  go_enter Tryz.func123,Tryz.ntmps123
  go_wp2_with fail
  generalize w.alloc (.cells #[vw ⟨#[]⟩,vw ⟨#[]⟩] 62)=W at b1 L1 xk ⊢
  generalize hg:w.heap.size=g at L1 ⊢
  refine (HV.out _ xk).mono ?_
  rintro e w2 ⟨rfl,vC⟩
  have Cv:=xk.then vC
  go_wp2_with (first | (go_at_call 69; refine (HN.out _ Cv).mono ?_; rintro e w3 ⟨rfl,vQ⟩) | (go_at_call 170; refine (Dq.out _).mono ?_; rintro e w4 ⟨rfl,rfl⟩))
  refine (Ad.out _).mono ?_
  rintro e w5 ⟨rfl,hb5⟩
  have hb15:=av (av vC vQ) hb5
  have L5:=L1.below hb15 L1.lt
  have c0:=L5.cell 0
  have c1:=L5.cell 1
  obtain ⟨f0,f1⟩:=frz2 L5
  have Cb:=L5.lt
  simp only [gz0,gz1] at c0 c1
  clear L1 L5
  go_wp2_with fail
  refine bodyPost_ret (v:=.tuple #[.agg #[vw ⟨#[]⟩,vw ⟨#[]⟩],.bool false]) (by simp [results,Tryz.results123,go_sem, *]) rfl ⟨⟨#[]⟩,⟨#[]⟩,false,rfl,.inr ⟨rfl,HD.out⟩, ?_⟩
  rw [← hg] at *
  exact (av b1 hb15).trans (by repeat (first | exact Below.refl _ _ | refine Below.alloc ?_ (by simp; have:=b1.size; have:=hb15.size; omega) _ | refine Below.setCell ?_ sP _))
 | some u0 =>
  obtain ⟨u,rfl⟩ : ∃ u:ByteArray,u0=bl u:=⟨⟨u0.toArray⟩,(bL u0).symm⟩
  have zz:=ue hv
  have LI:u.size≤4000:=zz.2.2.1
  rw [hv] at HV
  have HO:Hid (uI (some (bl u))=u):=(dW rfl).symm
  rw [HO.out] at HV
  have Ej:∀ W,Calls vx 170 #[vw u,vw (t++⟨#[32]⟩)] W fun e w'=>e=.returned (.tuple #[vw ⟨(Lib.trimPrefix (bl u) (Lib.itoa (k:Int)++[32])).toArray⟩,.bool (Lib.hasPrefix (bl u) (Lib.itoa (k:Int)++[32]))])∧w'=W:=fun W=>by
   rw [← Ac.out]; exact Tryz.strings_CutPrefix u (t++⟨#[32]⟩) W
  by_cases hp:(Lib.itoa (k:Int)++[32]) <+: bl u
  ·have Gn:Lib.hasPrefix (bl u) (Lib.itoa (k:Int)++[32])=true:=List.isPrefixOf_iff_prefix.2 hp
   have hsplit:=qs hp
   obtain ⟨u',hu'⟩ : ∃ u' : ByteArray,u'=⟨((bl u).drop (Lib.itoa (k:Int)++[32]).length).toArray⟩:=⟨_,rfl⟩
   have Bb:bl u'=(bl u).drop (Lib.itoa (k:Int)++[32]).length:=by rw [hu',bL]
   rw [← Bb] at hsplit
   have Dq:Hid (∀ W,Calls vx 170 #[vw u,vw (t++⟨#[32]⟩)] W fun e w'=>e=.returned (.tuple #[vw u',.bool true])∧w'=W):=fun W=>by
    have:=Ej W
    unfold Lib.trimPrefix at this
    rw [Gn,if_pos rfl,← hu'] at this; exact this
   have LJ:u'.size≤4000:=by rw [← ao,Bb,List.length_drop,ao]; omega
   have Ad:=jZ (fun W=>pr u' 64 W oM)
   have wS:(aV u' 64).size≤4000:=by unfold aV; rw [← ao,bL]; have:=li 64 (bl u'); rw [ao] at this; omega
   have IZ:(ba u' 64).size≤4000:=by unfold ba; rw [← ao,bL,List.length_drop,ao]; omega
   cases hat:fV (bl u') 64
   ·have HD:Hid (dU k (bl s)=none):=sN Cm zz hsplit (kF.1 hat)
    rw [hat] at Ad
    clear hv zz Ej hp Gn hsplit hu' Bb hat
    go_enter Tryz.func123,Tryz.ntmps123
    go_wp2_with fail
    generalize w.alloc (.cells #[vw ⟨#[]⟩,vw ⟨#[]⟩] 62)=W at b1 L1 xk ⊢
    generalize hg:w.heap.size=g at L1 ⊢
    refine (HV.out _ xk).mono ?_
    rintro e w2 ⟨rfl,vC⟩
    have Cv:=xk.then vC
    go_wp2_with (first | (go_at_call 69; refine (HN.out _ Cv).mono ?_; rintro e w3 ⟨rfl,vQ⟩) | (go_at_call 170; refine (Dq.out _).mono ?_; rintro e w4 ⟨rfl,rfl⟩))
    refine (Ad.out _).mono ?_
    rintro e w5 ⟨rfl,hb5⟩
    have hb15:=av (av vC vQ) hb5
    have L5:=L1.below hb15 L1.lt
    have c0:=L5.cell 0
    have c1:=L5.cell 1
    obtain ⟨f0,f1⟩:=frz2 L5
    have Cb:=L5.lt
    simp only [gz0,gz1] at c0 c1
    clear L1 L5
    go_wp2_with fail
    refine bodyPost_ret (v:=.tuple #[.agg #[vw ⟨#[]⟩,vw ⟨#[]⟩],.bool false]) (by simp [results,Tryz.results123,go_sem, *]) rfl ⟨⟨#[]⟩,⟨#[]⟩,false,rfl,.inr ⟨rfl,HD.out⟩, ?_⟩
    rw [← hg] at *
    exact (av b1 hb15).trans (by repeat (first | exact Below.refl _ _ | refine Below.alloc ?_ (by simp; have:=b1.size; have:=hb15.size; omega) _ | refine Below.setCell ?_ sP _))
   ·have wO:=ql (c:=bl (aV u' 64)) (r:=bl (ba u' 64)) Cm zz (by
     rw [hsplit]; congr 1
     unfold aV ba; rw [bL,bL]; exact cP (oI.1 hat)) (by unfold aV; rw [bL]; exact fy 64 _)
    rw [hat] at Ad
    cases vF:dq.ok ⟨aV u' 64,ba u' 64⟩
    ·have HD:Hid (dU k (bl s)=none):=by
      rw [Hid,wO,if_neg (fun h=>by rw [show dq.ok ⟨aV u' 64,ba u' 64⟩=eN (bl (aV u' 64)) (bl (ba u' 64)) from rfl,h] at vF; cases vF)]
     have vY:=jZ vF
     clear hv zz Ej hp Gn hsplit hu' Bb hat wO vF
     go_enter Tryz.func123,Tryz.ntmps123
     go_wp2_with fail
     generalize w.alloc (.cells #[vw ⟨#[]⟩,vw ⟨#[]⟩] 62)=W at b1 L1 xk ⊢
     generalize hg:w.heap.size=g at L1 ⊢
     refine (HV.out _ xk).mono ?_
     rintro e w2 ⟨rfl,vC⟩
     have Cv:=xk.then vC
     go_wp2_with (first | (go_at_call 69; refine (HN.out _ Cv).mono ?_; rintro e w3 ⟨rfl,vQ⟩) | (go_at_call 170; refine (Dq.out _).mono ?_; rintro e w4 ⟨rfl,rfl⟩))
     refine (Ad.out _).mono ?_
     rintro e w5 ⟨rfl,hb5⟩
     have hb15:=av (av vC vQ) hb5
     have L5:=L1.below hb15 L1.lt
     go_wp2_with fail
     have L6:=L5.alloc (.cells #[vw (aV u' 64),vw (ba u' 64)] 62)
     have N6:=ah.new w5 62 #[vw (aV u' 64),vw (ba u' 64)]
     have b6:=(Below.refl w5.heap.size w5).alloc nR (.cells #[vw (aV u' 64),vw (ba u' 64)] 62)
     generalize w5.alloc (.cells #[vw (aV u' 64),vw (ba u' 64)] 62)=W6 at L6 N6 b6 ⊢
     generalize xw:w5.heap.size=g5 at N6 ⊢
     refine (fi ⟨aV u' 64,ba u' 64⟩ _ (by simp only; omega) (by simp only; omega)).mono ?_
     rw [vY.out]
     rintro e w7 ⟨rfl,xM⟩
     have L7:=L6.below xM L6.lt
     have N7:=N6.below xM N6.lt
     have c0:=L7.cell 0
     have c1:=L7.cell 1
     obtain ⟨f0,f1⟩:=frz2 L7
     have d0:=N7.cell 0
     have d1:=N7.cell 1
     have Cb:=L7.lt
     simp only [gz0,gz1] at c0 c1 d0 d1
     have hgB:w.heap.size≤g:=oM
     have wC:Below w.heap.size w w7:=av (av b1 hb15) (av (by rw [← xw] at *; exact b6) xM)
     clear L1 L5 L6 L7 N6 N7
     go_wp2_with fail
     refine bodyPost_ret (v:=.tuple #[.agg #[vw ⟨#[]⟩,vw ⟨#[]⟩],.bool false]) (by simp [results,Tryz.results123,go_sem, *]) rfl ⟨⟨#[]⟩,⟨#[]⟩,false,rfl,.inr ⟨rfl,HD.out⟩, ?_⟩
     exact wC.trans (by repeat (first | exact Below.refl _ _ | refine Below.setCell ?_ (by simp only; exact hgB) _))
    ·have HD:Hid (dU k (bl s)=some (bl (aV u' 64),bl (ba u' 64))):=by
      rw [Hid,wO,if_pos (by exact vF)]
     have vY:=jZ vF
     clear hv zz Ej hp Gn hsplit hu' Bb hat wO vF
     go_enter Tryz.func123,Tryz.ntmps123
     go_wp2_with fail
     generalize w.alloc (.cells #[vw ⟨#[]⟩,vw ⟨#[]⟩] 62)=W at b1 L1 xk ⊢
     generalize hg:w.heap.size=g at L1 ⊢
     refine (HV.out _ xk).mono ?_
     rintro e w2 ⟨rfl,vC⟩
     have Cv:=xk.then vC
     go_wp2_with (first | (go_at_call 69; refine (HN.out _ Cv).mono ?_; rintro e w3 ⟨rfl,vQ⟩) | (go_at_call 170; refine (Dq.out _).mono ?_; rintro e w4 ⟨rfl,rfl⟩))
     refine (Ad.out _).mono ?_
     rintro e w5 ⟨rfl,hb5⟩
     have hb15:=av (av vC vQ) hb5
     have L5:=L1.below hb15 L1.lt
     go_wp2_with fail
     have L6:=L5.alloc (.cells #[vw (aV u' 64),vw (ba u' 64)] 62)
     have N6:=ah.new w5 62 #[vw (aV u' 64),vw (ba u' 64)]
     have b6:=(Below.refl w5.heap.size w5).alloc nR (.cells #[vw (aV u' 64),vw (ba u' 64)] 62)
     generalize w5.alloc (.cells #[vw (aV u' 64),vw (ba u' 64)] 62)=W6 at L6 N6 b6 ⊢
     generalize xw:w5.heap.size=g5 at N6 ⊢
     refine (fi ⟨aV u' 64,ba u' 64⟩ _ (by simp only; omega) (by simp only; omega)).mono ?_
     rw [vY.out]
     rintro e w7 ⟨rfl,xM⟩
     have L7:=L6.below xM L6.lt
     have N7:=N6.below xM N6.lt
     have c0:=L7.cell 0
     have c1:=L7.cell 1
     obtain ⟨f0,f1⟩:=frz2 L7
     have d0:=N7.cell 0
     have d1:=N7.cell 1
     have Cb:=L7.lt
     simp only [gz0,gz1] at c0 c1 d0 d1
     have hgB:w.heap.size≤g:=oM
     have wC:Below w.heap.size w w7:=av (av b1 hb15) (av (by rw [← xw] at *; exact b6) xM)
     clear L1 L5 L6 L7 N6 N7
     go_wp2_with fail
     refine bodyPost_ret (v:=.tuple #[.agg #[vw (aV u' 64),vw (ba u' 64)],.bool true]) (by simp [results,Tryz.results123,go_sem, *]) rfl ⟨aV u' 64,ba u' 64,true,rfl,.inl ⟨rfl,HD.out⟩, ?_⟩
     exact wC.trans (by repeat (first | exact Below.refl _ _ | refine Below.setCell ?_ (by simp only; exact hgB) _))
  ·have Ja:Lib.hasPrefix (bl u) (Lib.itoa (k:Int)++[32])=false:=by
    rcases h:Lib.hasPrefix (bl u) (Lib.itoa (k:Int)++[32]) with _ | _
    ·rfl
    ·exact absurd (List.isPrefixOf_iff_prefix.1 h) hp
   have HD:Hid (dU k (bl s)=none):=rl Cm zz hp
   have Dq:Hid (∀ W,Calls vx 170 #[vw u,vw (t++⟨#[32]⟩)] W fun e w'=>e=.returned (.tuple #[vw u,.bool false])∧w'=W):=fun W=>by
    have:=Ej W
    unfold Lib.trimPrefix at this
    rw [Ja] at this
    simp only [Bool.false_eq_true,if_false] at this
    rwa [show (⟨(bl u).toArray⟩ : ByteArray)=u from (dW rfl).symm] at this
   have Ad:=jZ (fun W=>pr u 64 W oM)
   generalize fV (bl u) 64=hb at Ad
   clear hv zz Ej hp Ja
   go_enter Tryz.func123,Tryz.ntmps123
   go_wp2_with fail
   generalize w.alloc (.cells #[vw ⟨#[]⟩,vw ⟨#[]⟩] 62)=W at b1 L1 xk ⊢
   generalize hg:w.heap.size=g at L1 ⊢
   refine (HV.out _ xk).mono ?_
   rintro e w2 ⟨rfl,vC⟩
   have Cv:=xk.then vC
   go_wp2_with (first | (go_at_call 69; refine (HN.out _ Cv).mono ?_; rintro e w3 ⟨rfl,vQ⟩) | (go_at_call 170; refine (Dq.out _).mono ?_; rintro e w4 ⟨rfl,rfl⟩))
   refine (Ad.out _).mono ?_
   rintro e w5 ⟨rfl,hb5⟩
   have hb15:=av (av vC vQ) hb5
   have L5:=L1.below hb15 L1.lt
   have c0:=L5.cell 0
   have c1:=L5.cell 1
   obtain ⟨f0,f1⟩:=frz2 L5
   have Cb:=L5.lt
   simp only [gz0,gz1] at c0 c1
   clear L1 L5
   go_wp2_with fail
   refine bodyPost_ret (v:=.tuple #[.agg #[vw ⟨#[]⟩,vw ⟨#[]⟩],.bool false]) (by simp [results,Tryz.results123,go_sem, *]) rfl ⟨⟨#[]⟩,⟨#[]⟩,false,rfl,.inr ⟨rfl,HD.out⟩, ?_⟩
   rw [← hg] at *
   exact (av b1 hb15).trans (by repeat (first | exact Below.refl _ _ | refine Below.alloc ?_ (by simp; have:=b1.size; have:=hb15.size; omega) _ | refine Below.setCell ?_ sP _))
def eD (ps:List (List UInt8)):List Value:=ps.map fun p=>Value.string ⟨p.toArray⟩
theorem sQ (ps:List (List UInt8)):(eD ps).length=ps.length * 1:=by simp [eD]
theorem qt:(vx.info? 9).map (fun i=>(i.zero,i.size,i.bytes))=some (some (vw ⟨#[]⟩),1,16):=kZ
theorem rv {s:ByteArray} {f i:Nat} {b:UInt8} (LK:f≤i) (hi:i < s.size) :
  dx b (((bl s).take i).drop f) ((bl s).drop i)=if s[i]=b then ((bl s).take i).drop f :: dx b (((bl s).take (i+1)).drop (i+1)) ((bl s).drop (i+1)) else dx b (((bl s).take (i+1)).drop f) ((bl s).drop (i+1)):=by
 rw [kb hi,dx]
 have e1:((bl s).take (i+1)).drop (i+1) = []:=List.drop_eq_nil_of_le (by rw [List.length_take]; omega)
 have e2:((bl s).take (i+1)).drop f=((bl s).take i).drop f++[s[i]]:=by
  rw [uH hi,List.drop_append_of_le_length (by rw [List.length_take,ao]; omega)]
 rw [e1,e2]
set_option maxRecDepth 100000 in
theorem iC (s:ByteArray) (b:UInt8) (w:World) (hs:s.size≤100000000) :
  Calls vx 58 #[vw s,.int .u8 b.toNat] w fun e w'=>∃ A c,e=.returned (F A (aK b (bl s)).length c)∧w'.ownsRow w.heap.size 9 1 (F A (aK b (bl s)).length c) (aK b (bl s)).length (eD (aK b (bl s)))∧Below w.heap.size w w':=by
 have b0:=bZ w (.cells #[] 9)
 have O0:Hid ((w.alloc (.cells #[] 9)).ownsRow w.heap.size 9 1 (F (some ⟨w.heap.size,0,none⟩) 0 0) 0 (eD [])):=dO (ah.new w 9 #[]) nR
 have LL:Hid (∀ l cur:List UInt8,(dx b cur l).length≤l.length+1):=gn b
 go_enter Tryz.func58,Tryz.ntmps58
 go_wp2
 go_loopw [5,6,7] (fun o fr i wr=>∃ (f k:Nat) (A:Option Addr) (c:Nat) (ps:List (List UInt8)),f≤k∧k≤s.size∧ps.length≤k∧o=F A ps.length c∧fr=O U f∧i=O U k∧(∃ q:ap w.heap.size w,wr=q.val) ∧
  Hid (aK b (bl s)=ps++dx b (((bl s).take k).drop f) ((bl s).drop k))∧Hid (wr.ownsRow w.heap.size 9 1 (F A ps.length c) ps.length (eD ps))) (fun _ _ i _=>s.size - (intOf i).toNat)
 case atStart=>exact ⟨0,0,some ⟨w.heap.size,0,none⟩,0,[],Nat.le_refl _,Nat.zero_le _,sP,rfl,rfl,rfl,⟨⟨_,b0⟩,rfl⟩,rfl,O0⟩
 case round =>
  obtain ⟨f,k,A,c,ps,Ek,hk,AJ,rfl,rfl,rfl,⟨q,rfl⟩,HF,HR⟩:=hrel
  have El:=q.size
  by_cases vH:k < s.size
  ·have yV:=jZ (rv (b:=b) Ek vH)
   have hq:=@uU s[k] b
   have i1:(f:Int)≤(k:Int):=oM
   have i2:(k:Int)≤(s.size:Int):=oM
   by_cases yv:s[k]=b
   ·rw [if_pos yv] at yV
    rw [jD yv] at hq
    have HB:Hid (bl (s.extract f k)=((bl s).take k).drop f):=bE _ _ _
    clear yv
    go_wp2_with (at_builtin; refine cZ (w0:=q.val) rfl (.tmp 20) (.tmp 25) 49 rfl 9 (vw ⟨#[]⟩) 1 16 Tryz.underlying49 qt rfl (by omega) (by omega) w.heap.size _ _ _ rfl HR #[vw (s.extract f k)] 1 _ rfl (by first | rfl | simp | exact Array.size_push _) rfl (by simp [Value.oneCell']) (by omega) El rfl rfl rfl rfl ?_; intro v5 w5 zx xw hb5)
    obtain ⟨A5,c5,yM⟩:=az zx.out
    subst yM
    go_roundw
    case rel =>
     refine ⟨k+1,k+1,A5,c5,ps++[((bl s).take k).drop f],Nat.le_refl _,oM,by simp; omega,sP,by go_num,by go_num,⟨q.go' hb5,rfl⟩, ?_, ?_⟩
     ·have h1:=HF.out; rw [yV.out] at h1; rw [Hid,h1]; simp
     ·have h1:=zx.out; rw [Hid]
      have h2:eD (ps++[((bl s).take k).drop f])=eD ps++[Value.string (s.extract f k)]:=by unfold eD; rw [List.map_append,← HB.out]; simp [← dW rfl]
      rw [h2]; simpa using h1
    case measure=>simp [intOf]; omega
   ·rw [if_neg yv] at yV
    rw [jE yv] at hq
    clear yv
    go_wp2
    go_roundw
    case rel=>exact ⟨f,k+1,A,c,ps,oM,oM,oM,rfl,rfl,by go_num,⟨q,rfl⟩,by have h1:=HF.out; rw [yV.out] at h1; exact h1,HR⟩
    case measure=>simp [intOf]; omega
  ·obtain rfl:k=s.size:=oM
   have i1:(f:Int)≤(s.size:Int):=oM
   have HB:Hid (bl (s.extract f s.size)=((bl s).take s.size).drop f):=bE _ _ _
   have Aw:Hid (aK b (bl s)=ps++[((bl s).take s.size).drop f]):=by
    have h1:=HF.out
    have e0:(bl s).drop s.size = []:=List.drop_eq_nil_of_le (by rw [ao]; exact Nat.le_refl _)
    rw [e0] at h1; exact h1
   go_wp2_with (at_builtin; refine cZ (w0:=q.val) rfl (.tmp 29) (.tmp 33) 49 rfl 9 (vw ⟨#[]⟩) 1 16 Tryz.underlying49 qt rfl (by omega) (by omega) w.heap.size _ _ _ rfl HR #[vw (s.extract f s.size)] 1 _ rfl (by first | rfl | simp | exact Array.size_push _) rfl (by simp [Value.oneCell']) (by omega) El rfl rfl rfl rfl ?_; intro v5 w5 zx xw hb5)
   obtain ⟨A5,c5,yM⟩:=az zx.out
   subst yM
   go_ret
   have h2:eD (ps++[((bl s).take s.size).drop f])=eD ps++[Value.string (s.extract f s.size)]:=by unfold eD; rw [List.map_append,← HB.out]; simp [← dW rfl]
   rw [Aw.out,h2]
   refine ⟨A5,c5,sP, ?_,(q.go' hb5).below⟩
   have h1:=zx.out
   simpa using h1
theorem sl:(vx.info? 62).map (fun i=>(i.zero,i.size,i.bytes))=some (some (.agg #[vw ⟨#[]⟩,vw ⟨#[]⟩]),2,32):=kZ
theorem iD:(vx.info? 3).map (fun i=>(i.zero,i.size,i.bytes))=some (some (O U 0),1,8):=kZ
def dP (l:List ((List UInt8 × List UInt8) × Nat)) (m:List dq):Prop:=m.map (fun r=>(bl r.c,bl r.r))=l.map (·.1)
theorem gq {l:List ((List UInt8 × List UInt8) × Nat)} {m:List dq} (h:dP l m):m.length=l.length:=by
 have:=congrArg List.length h; simpa using this
def sR (l:List Nat):List Value:=l.map fun (n:Nat)=>Value.int .i64 (n:Int)
def iX (s:ByteArray) (w:World) (e:Ending) (w' : World):Prop:=∃ A c A' c' m,e=.returned (.tuple #[F A m.length c,F A' (m.length+1) c'])∧dP (aF 60 0 (bl s)) m ∧
 w'.ownsRow w.heap.size 62 2 (F A m.length c) m.length (m.flatMap dq.enc)∧w'.ownsRow w.heap.size 3 1 (F A' (m.length+1) c') (m.length+1) (sR (ei 0 (aF 60 0 (bl s))))∧Below w.heap.size w w'
set_option maxRecDepth 100000 in
theorem gG (s:ByteArray) (w:World) (hs:s.size≤3000000) (ht:iN w) :
  Calls vx 68 #[vw s] w (iX s w):=by
 have b0:=bZ w (.cells #[O U 0] 3)
 have L0:=ah.new w 3 #[O U 0]
 have E0:Hid ((w.alloc (.cells #[O U 0] 3)).ownsRow w.heap.size 3 1 (F (some ⟨w.heap.size,0,none⟩) 1 1) 1 (sR (ei 0 []))):=L0.own nR sP (by unfold maxLen; omega)
 have vJ:62 ≠ 3:=dD
 go_enter Tryz.func68,Tryz.ntmps68
 go_wp2
 have HZ:Hid (aF 60 0 (bl s) = []++aF (60 - 0) 0 ((bl s).drop 0)):=rfl
 go_loopw [4,5,6,7,8,9] (fun r en at' _ _ _ wr=>∃ (a:Nat) (A:Option Addr) (c:Nat) (A' : Option Addr) (c' : Nat) (m:List dq) (acc:List ((List UInt8 × List UInt8) × Nat)),m.length≤60∧a≤s.size∧r=F A m.length c∧en=F A' (m.length+1) c'∧at'=O U a∧(∃ q:ap w.heap.size w,wr=q.val) ∧
  Hid (dP acc m)∧Hid (ci acc=a)∧Hid (aF 60 0 (bl s)=acc++aF (60 - m.length) m.length ((bl s).drop a))∧Hid (wr.ownsRow w.heap.size 62 2 (F A m.length c) m.length (m.flatMap dq.enc))∧Hid (wr.ownsRow w.heap.size 3 1 (F A' (m.length+1) c') (m.length+1) (sR (ei 0 acc)))) (fun r _ _ _ _ _ _=>60 - lenOf r)
 case atStart=>exact ⟨0,none,0,some ⟨w.heap.size,0,none⟩,1,[],[],sP,Nat.zero_le _,rfl,rfl,rfl,⟨⟨_,b0⟩,rfl⟩,rfl,rfl,HZ,World.ownsRow_nil _ _ _ _,E0⟩
 case round =>
  obtain ⟨a,A,c,A',c',m,acc,hm,ha,rfl,rfl,rfl,⟨q,rfl⟩,HA,HL,HF,HR,HE⟩:=hrel
  have DONE:aF (60 - m.length) m.length ((bl s).drop a) = []→∀ W',Below q.val.heap.size q.val W'→iX s w (.returned (.tuple #[F A m.length c,F A' (m.length+1) c'])) W':=fun h W' hb=>by
   have h1:=HF.out
   rw [h,List.append_nil] at h1
   exact ⟨A,c,A',c',m,rfl,by rw [h1]; exact HA.out,ac HR.out hb,by rw [h1]; exact ac HE.out hb,(q.go nR hb).below⟩
  by_cases vH:m.length < 60
  ·obtain ⟨n,hn⟩ : ∃ n,60 - m.length=n+1:=⟨59 - m.length,oM⟩
   obtain ⟨x,hx⟩ : ∃ x:ByteArray,x=s.extract a s.size:=⟨_,rfl⟩
   have xT:bl x=(bl s).drop a:=by rw [hx,bE,List.take_of_length_le (by rw [ao]; exact Nat.le_refl _)]
   have HI:Hid (∀ W,Calls vx 122 #[vw (s.extract a s.size),.int .u8 10] W fun e w'=>e=.returned (O U (Lib.indexByte (bl x) 10))∧w'=W):=fun W=>by rw [← hx]; exact Tryz.strings_IndexByte x 10 W
   rw [hn] at DONE HF
   rw [← xT] at DONE HF
   have i1:(a:Int)≤(s.size:Int):=oM
   rcases nx (bl x) 10 with ⟨h1,h2⟩ | ⟨h1,h2⟩
   ·rw [h2] at HI
    have HD:=jZ (DONE (du h1) _ jB)
    clear DONE h1 h2 hx xT hn
    go_wp2_with (go_at_call 122; refine (HI.out _).mono ?_; rintro e w' ⟨rfl,rfl⟩)
    go_ret2
    exact HD.out
   ·rw [h2] at HI
    have hp:=congrArg List.length (cP h1)
    have Ar:(bl x).length=s.size - a:=by rw [xT,List.length_drop,ao]
    simp only [List.length_append,List.length_cons,List.length_drop,Ar] at hp
    have hparts:=cP h1
    obtain ⟨d,hd⟩ : ∃ d,d=(cw 10 (bl x)).length:=⟨_,rfl⟩
    rw [← hd] at HI hp
    have Je:a+d+1≤s.size:=oM
    obtain ⟨y,hy⟩ : ∃ y:ByteArray,y=s.extract a (a+d):=⟨_,rfl⟩
    have zj:bl y=cw 10 (bl x):=by
     rw [hy,bE,List.drop_take,Nat.add_sub_cancel_left,← xT,hd,nl]
    have Gp:y.size≤3000000:=by rw [← ao,zj,← hd]; omega
    have Fk:Hid (∀ W,iN W→Calls vx 123 #[O U (m.length:Int),vw (s.extract a (a+d))] W (ny m.length y W)):=fun W hW=>by
     rw [← hy]; exact lP m.length y W oM Gp hW
    have Dw:Hid (dU m.length (bl y)=none→∀ W',Below q.val.heap.size q.val W'→iX s w (.returned (.tuple #[F A m.length c,F A' (m.length+1) c'])) W'):=fun h=>DONE (dz (by rw [← zj]; exact h))
    have BF:Hid (∀ ra rb,dU m.length (bl y)=some (ra,rb)→aF 60 0 (bl s)=(acc++[((ra,rb),d+1)])++aF (60 - (m.length+1)) (m.length+1) ((bl s).drop (a+(d+1)))):=fun ra rb h=>by
     have e1:=cj (n:=n) h1 (by rw [← zj]; exact h)
     have e2:60 - (m.length+1)=n:=oM
     rw [HF.out,e1,e2,← hd,xT,List.drop_drop]
     simp
    have i2:(0:Int)≤(d:Int):=oM
    have i3:(a:Int)+(d:Int)≤(s.size:Int):=oM
    have i4:(a:Int)+((d:Int)+1)≤(s.size:Int):=oM
    have Ks:=ht.at q
    clear DONE h1 h2 hx xT hn hp Ar hparts hd hy zj
    go_wp2_with (go_at_call 122; refine (HI.out _).mono ?_; rintro e w' ⟨rfl,rfl⟩)
    refine (Fk.out _ Ks).mono ?_
    rintro e w3 ⟨ra,rb,ok,rfl,wO,vQ⟩
    cases ok
    ·have HD:=jZ (Dw.out (by rcases wO with ⟨h,_⟩ | ⟨_,h⟩; cases h; exact h) _ (vQ.alloc vQ.size (.cells #[vw ra,vw rb] 62)))
     clear wO
     go_wp2_with fail
     go_ret2
     exact HD.out
    ·have hdec' : dU m.length (bl y)=some (bl ra,bl rb):=by rcases wO with ⟨_,h⟩ | ⟨h,_⟩; exact h; cases h
     have Aw:=jZ (BF.out _ _ hdec')
     clear wO hdec'
     have b4:=vQ.alloc vQ.size (.cells #[vw ra,vw rb] 62)
     have Fl:=jZ (ac HR.out b4)
     have Ku:=jZ (ac HE.out b4)
     have El:=q.size
     have Cw:w.heap.size≤(w3.alloc (.cells #[vw ra,vw rb] 62)).heap.size:=jT El b4.size
     go_wp2_with (first
      | (at_builtin; refine cZ (w0:=w3.alloc (.cells #[vw ra,vw rb] 62)) rfl (.tmp 38) (.tmp 40) 58 rfl 62 _ 2 32 Tryz.underlying58 sl rfl (by omega) (by omega) w.heap.size _ _ _ rfl Fl #[vw ra,vw rb] 1 _ rfl (by first | rfl | simp | exact Array.size_push _) rfl (by simp [Value.oneCell']) (by omega) Cw rfl rfl rfl rfl ?_; intro v5 w5 zx xw hb5; have Jf:=Lib.hid (eU Ku.out Fl.out vJ xw); have Ib:w.heap.size≤w5.heap.size:=Nat.le_trans Cw xw.size)
      | (at_builtin; refine cZ (w0:=w5) rfl (.tmp 42) (.tmp 44) 100 rfl 3 (O U 0) 1 8 Tryz.underlying100 iD rfl (by omega) (by omega) w.heap.size _ _ _ rfl Jf #[O U ((a:Int)+((d:Int)+1))] 1 _ rfl (by first | rfl | simp | exact Array.size_push _) rfl (by simp [Value.oneCell']) (by omega) Ib rfl rfl rfl rfl ?_; intro v6 w6 BG xL wk))
     have Kv:=jZ (eU zx.out Jf.out vJ.symm xL)
     obtain ⟨A5,c5,yM⟩:=az zx.out
     subst yM
     obtain ⟨A6,c6,Fm⟩:=az BG.out
     subst Fm
     go_roundw
     case rel =>
      refine ⟨a+(d+1),A5,c5,A6,c6,m++[⟨ra,rb⟩],acc++[((bl ra,bl rb),d+1)],by simp; omega,oM,sP,sP,by go_num,⟨((q.go nR b4).go' hb5).go' wk,rfl⟩, ?_, ?_, ?_, ?_, ?_⟩
      ·have h1:=HA.out; unfold dP at h1; unfold dP Hid; simp [h1]
      ·have h1:=HL.out; unfold Hid; rw [← h1]; simp [ci]
      ·have h1:=Aw.out; rw [Hid]; simpa using h1
      ·have h1:=Kv.out; rw [Hid]; simpa [dq.enc] using h1
      ·have h1:=BG.out; rw [Hid,nu,HL.out]; simpa [sR] using h1
     case measure=>simp [lenOf]; omega
  ·have HD:Hid (iX s w (.returned (.tuple #[F A m.length c,F A' (m.length+1) c'])) q.val):=DONE (by rw [show 60 - m.length=0 by omega]; rfl) _ jB
   clear DONE
   go_wp2
   go_ret2
   exact HD.out
end Go.Proofs.YtoeoimhemojdeaaGreatDoor
