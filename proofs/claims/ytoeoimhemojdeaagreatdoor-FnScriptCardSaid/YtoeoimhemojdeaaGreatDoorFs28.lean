/- Lemmas. -/
import Derived.Test.YtoeoimhemojdeaaGreatDoorProg
import Derived.Test.YtoeoimhemojdeaaGreatDoorFs26

set_option linter.unusedVariables false
set_option linter.unusedSimpArgs false
set_option maxHeartbeats 8000000
open Go.Value renaming int → O, slice → F, string → wG
open Go.IntKind renaming i64 → U
open Go.Proofs.Tryz renaming prog → wH

namespace Go.Proofs.YtoeoimhemojdeaaGreatDoor
open Go.RowKit
theorem jA {c:UInt8} : ip c=true ↔ 32≤c.toNat∧c.toNat≤126∧c.toNat ≠ 35:=by
 unfold ip
 simp only [Bool.and_eq_true,decide_eq_true_eq,bne_iff_ne,ne_eq,and_assoc]
 constructor <;> (rintro ⟨h1,h2,h3⟩; refine ⟨h1,h2,fun h=>h3 ?_⟩)
 ·exact UInt8.toNat_inj.1 h
 ·rw [h]; rfl
theorem n6 {s:ByteArray} {k:Nat} (h:k < s.size):bE ((bl s).drop k)=(ip s[k] && bE ((bl s).drop (k+1))):=by rw [kC h]; rfl
theorem p9 (s:ByteArray) (m:Int) (w:World) (hs:s.size≤1000000000) :
  Calls wH 83 #[wG s,O U m] w fun e w'=>e=.returned (.bool (bE (bl s) && decide ((s.size:Int)≤m)))∧w=w':=by
 have HF:Hid (bE ((bl s).drop 0)=bE (bl s)):=rfl
 go_enter Tryz.func83,Tryz.ntmps83
 go_wp2
 go_loop [5] (fun i=>∃ k:Nat,k≤s.size∧i=O U k∧Hid (bE ((bl s).drop k)=bE (bl s))) (fun i=>s.size - (intOf i).toNat)
 case atStart=>exact ⟨0,Nat.zero_le _,rfl,HF⟩
 case round =>
  obtain ⟨k,hk,rfl,HR⟩:=hrel
  by_cases wQ:k < s.size
  ·have HD:=jZ (n6 wQ)
   have u1:(s[k].toNat:Int)≤255:=by have:=UInt8.toNat_lt s[k]; omega
   cases hp:ip s[k]
   ·rw [hp] at HD
    have HN:Hid (bE (bl s)=false):=by rw [Hid,← HR.out,HD.out]; rfl
    by_cases h1:cg (s[k].toNat:Int) 32 126=true
    ·have h2:((s[k].toNat:Int) == 35)=true:=by
      rw [bV] at h1
      have : ¬ (32≤s[k].toNat∧s[k].toNat≤126∧s[k].toNat ≠ 35):=fun h=>by rw [jA.2 h] at hp; cases hp
      simp; omega
     clear hp
     have H1:=jZ h1; clear h1
     go_wp2_with (go_at_call 134; refine (aK _ _ _ _).mono ?_; rw [H1.out]; rintro e w' ⟨rfl,rfl⟩)
     go_ret
     exact ⟨by rw [HN.out]; rfl,rfl⟩
    ·have h1' : cg (s[k].toNat:Int) 32 126=false:=by simpa using h1
     clear hp h1
     have H1:=jZ h1'; clear h1'
     go_wp2_with (go_at_call 134; refine (aK _ _ _ _).mono ?_; rw [H1.out]; rintro e w' ⟨rfl,rfl⟩)
     go_ret
     exact ⟨by rw [HN.out]; rfl,rfl⟩
   ·rw [hp] at HD
    rw [jA] at hp
    have H1:Hid (cg (s[k].toNat:Int) 32 126=true):=by rw [Hid,bV]; omega
    have h2:((s[k].toNat:Int) == 35)=false:=by simp; omega
    clear hp
    go_wp2_with (go_at_call 134; refine (aK _ _ _ _).mono ?_; rw [H1.out]; rintro e w' ⟨rfl,rfl⟩)
    go_round
    case rel=>exact ⟨k+1,oM,by go_num,by have h:=HR.out; rw [HD.out] at h; exact h⟩
    case measure=>simp [intOf]; omega
  ·have HK:Hid (bE (bl s)=true):=by
    have h1:=HR.out
    rw [List.drop_eq_nil_of_le (by rw [an]; omega)] at h1; exact h1.symm
   go_wp2
   go_ret
   exact ⟨by rw [HK.out]; rfl,rfl⟩
theorem nj (s:ByteArray) (w:World) (hs:s.size≤1000000000) :
  Calls wH 94 #[wG s] w fun e w'=>e=.returned (.bool (bE (bl s)))∧w=w':=by
 have HF:Hid (bE ((bl s).drop 0)=bE (bl s)):=rfl
 go_enter Tryz.func94,Tryz.ntmps94
 go_wp2
 go_loop [3,6] (fun _ i=>∃ k:Nat,k≤s.size∧i=O U k∧Hid (bE ((bl s).drop k)=bE (bl s))) (fun _ i=>s.size - (intOf i).toNat)
 case atStart=>exact ⟨0,Nat.zero_le _,rfl,HF⟩
 case round =>
  obtain ⟨k,hk,rfl,HR⟩:=hrel
  by_cases wQ:k < s.size
  ·have HD:=jZ (n6 wQ)
   have u1:(s[k].toNat:Int)≤255:=by have:=UInt8.toNat_lt s[k]; omega
   cases hp:ip s[k]
   ·rw [hp] at HD
    have HN:Hid (bE (bl s)=false):=by rw [Hid,← HR.out,HD.out]; rfl
    have ME:(s[k].toNat:Int) < 32 ∨ (32≤(s[k].toNat:Int)∧126 < (s[k].toNat:Int)) ∨ (32≤(s[k].toNat:Int)∧(s[k].toNat:Int)≤126∧(s[k].toNat:Int)=35):=by
     have : ¬ (32≤s[k].toNat∧s[k].toNat≤126∧s[k].toNat ≠ 35):=fun h=>by rw [jA.2 h] at hp; cases hp
     omega
    clear hp
    rcases ME with h1 | ⟨h1,h2⟩ | ⟨h1,h2,h3⟩
    ·have d1:decide ((s[k].toNat:Int) < 32)=true:=jD h1
     clear h1
     go_wp2
     go_ret
     exact ⟨by rw [HN.out]; rfl,rfl⟩
    ·have d1:decide ((s[k].toNat:Int) < 32)=false:=jE oM
     have d2:decide (126 < (s[k].toNat:Int))=true:=jD h2
     clear h1 h2
     go_wp2
     go_ret
     exact ⟨by rw [HN.out]; rfl,rfl⟩
    ·have d1:decide ((s[k].toNat:Int) < 32)=false:=jE oM
     have d2:decide (126 < (s[k].toNat:Int))=false:=jE oM
     have d3:((s[k].toNat:Int) == 35)=true:=by simp [h3]
     clear h1 h2 h3
     go_wp2
     go_ret
     exact ⟨by rw [HN.out]; rfl,rfl⟩
   ·rw [hp] at HD
    rw [jA] at hp
    have d1:decide ((s[k].toNat:Int) < 32)=false:=jE oM
    have d2:decide (126 < (s[k].toNat:Int))=false:=jE oM
    have d3:((s[k].toNat:Int) == 35)=false:=by simp; omega
    clear hp
    go_wp2
    go_round
    case rel=>exact ⟨k+1,oM,by go_num,by have h:=HR.out; rw [HD.out] at h; exact h⟩
    case measure=>simp [intOf]; omega
  ·have HK:Hid (bE (bl s)=true):=by
    have h1:=HR.out
    rw [List.drop_eq_nil_of_le (by rw [an]; omega)] at h1; exact h1.symm
   go_wp2
   go_ret
   exact ⟨by rw [HK.out]; rfl,rfl⟩
def gj (l:List UInt8) (b:UInt8):Bool:=l.contains b
theorem uZ {s:ByteArray} {k:Nat} {b:UInt8} (h:k < s.size):gj ((bl s).drop k) b=(decide (s[k]=b) || gj ((bl s).drop (k+1)) b):=by
 unfold gj
 rw [kC h,List.contains_cons]
 congr 1
 rw [Bool.eq_iff_iff]; simp; exact eq_comm
theorem qa (s:ByteArray) (b:UInt8) (w:World) (hs:s.size≤1000000000) :
  Calls wH 84 #[wG s,.int .u8 b.toNat] w fun e w'=>e=.returned (.bool (gj (bl s) b))∧w=w':=by
 have HF:Hid (gj ((bl s).drop 0) b=gj (bl s) b):=rfl
 go_enter Tryz.func84,Tryz.ntmps84
 go_wp2
 go_loop [5] (fun i=>∃ k:Nat,k≤s.size∧i=O U k∧Hid (gj ((bl s).drop k) b=gj (bl s) b)) (fun i=>s.size - (intOf i).toNat)
 case atStart=>exact ⟨0,Nat.zero_le _,rfl,HF⟩
 case round =>
  obtain ⟨k,hk,rfl,HR⟩:=hrel
  by_cases wQ:k < s.size
  ·have HD:=jZ (uZ (b:=b) wQ)
   have hq:=@vW s[k] b
   cases hp:decide (s[k]=b)
   ·rw [hp] at HD hq
    clear hp
    go_wp2
    go_round
    case rel=>exact ⟨k+1,oM,by go_num,by have h:=HR.out; rw [HD.out] at h; exact h⟩
    case measure=>simp [intOf]; omega
   ·rw [hp] at HD hq
    clear hp
    go_wp2
    go_ret
    exact ⟨by rw [← HR.out,HD.out]; rfl,rfl⟩
  ·have HK:Hid (gj (bl s) b=false):=by
    have h1:=HR.out
    rw [List.drop_eq_nil_of_le (by rw [an]; omega)] at h1; exact h1.symm
   go_wp2
   go_ret
   exact ⟨by rw [HK.out]; rfl,rfl⟩
structure dA where
 c:ByteArray
 r:ByteArray
abbrev dA.val (e:dA):Value:=.agg #[wG e.c,wG e.r]
def dA.enc (e:dA):List Value:=[wG e.c,wG e.r]
theorem dA.enc_len (e:dA):e.enc.length=2:=rfl
def dA.ok (e:dA):Bool:=eY (bl e.c) (bl e.r)
theorem dA.ok_eq (e:dA):e.ok=(decide (1≤e.c.size) && decide (e.c.size≤160) && bE (bl e.c) && !gj (bl e.c) 64 && bE (bl e.r) && decide (e.r.size≤200)):=rfl
def qc (s:ByteArray) (m:Int):Bool:=bE (bl s) && decide ((s.size:Int)≤m)
theorem sh (s:ByteArray) (m:Int) (w:World) (hs:s.size≤1000000000) :
  Calls wH 83 #[wG s,O U m] w fun e w'=>e=.returned (.bool (qc s m))∧w=w':=p9 s m w hs
theorem dA.ok_spec (e:dA):e.ok=(decide (1≤e.c.size) && qc e.c 160 && !gj (bl e.c) 64 && qc e.r 200):=by
 rw [dA.ok_eq]
 unfold qc
 have e1:decide ((e.c.size:Int)≤160)=decide (e.c.size≤160):=by rw [Bool.eq_iff_iff]; simp; omega
 have e2:decide ((e.r.size:Int)≤200)=decide (e.r.size≤200):=by rw [Bool.eq_iff_iff]; simp; omega
 rw [e1,e2]
 cases decide (1≤e.c.size) <;> cases decide (e.c.size≤160) <;> cases bE (bl e.c) <;> cases gj (bl e.c) 64 <;> cases bE (bl e.r) <;> simp
theorem dA.ok_impl (e:dA):e.ok=(cg e.c.size 1 160 && decide ((e.r.size:Int)≤200) && bE (bl e.c) && bE (bl e.r) && !gj (bl e.c) 64):=by
 rw [dA.ok_eq]
 have e1:cg e.c.size 1 160=(decide (1≤e.c.size) && decide (e.c.size≤160)):=by rw [Bool.eq_iff_iff]; simp [cg]; omega
 have e2:decide ((e.r.size:Int)≤200)=decide (e.r.size≤200):=by rw [Bool.eq_iff_iff]; simp; omega
 rw [e1,e2]
 cases decide (1≤e.c.size) <;> cases decide (e.c.size≤160) <;> cases bE (bl e.c) <;> cases bE (bl e.r) <;> cases gj (bl e.c) 64 <;> simp
theorem kW (s:ByteArray) (b:UInt8) (w:World):Calls wH 95 #[wG s,wG ⟨#[b]⟩] w fun e w'=>e=.returned (.bool (gj (bl s) b))∧w=w':=by
 refine (Tryz.strings_Contains_one s b w).mono ?_
 rintro e w' ⟨rfl,rfl⟩
 refine ⟨?_,rfl⟩
 congr 2
 unfold gj
 rw [← pV]
 unfold Lib.contains
 rw [Bool.eq_iff_iff]
 simp only [decide_eq_true_eq]
 have h1:Lib.indexByte (bl s) b=Lib.index (bl s) [b]:=by
  rcases jy (bl s) b with ⟨hn,e⟩ | ⟨hy,e⟩
  ·rw [e]
   rcases h:Lib.indexByte (bl s) b with n | n
   ·exfalso; exact hn (List.mem_of_getElem? (Lib.indexByte_some (o:=n) h).1)
   ·have:=Lib.indexByte_ge (bl s) b; rw [h] at this; omega
  ·rw [e]
   have xq:=Lib.indexByte_ge (bl s) b
   rcases Int.lt_or_le (Lib.indexByte (bl s) b) 0 with wQ | Jx
   ·have:Lib.indexByte (bl s) b = -1:=oM
    have h2:=Lib.indexByte_none this
    obtain ⟨k,hk,Il⟩:=List.getElem_of_mem hy
    exact absurd (by rw [List.getElem?_eq_getElem hk,Il]) (h2 k)
   ·obtain ⟨n,hn⟩:=Int.eq_ofNat_of_zero_le Jx
    obtain ⟨h3,h4⟩:=Lib.indexByte_some hn
    rw [hn]
    have hp:=dd hy
    have h5:(bl s)[(cP b (bl s)).length]?=some b:=by
     have:(cP b (bl s)++b :: (bl s).drop ((cP b (bl s)).length+1))[(cP b (bl s)).length]?=some b:=sP
     rwa [← hp] at this
    rcases Nat.lt_trichotomy n (cP b (bl s)).length with wQ | zE | Ag
    ·exfalso
     have h6:(cP b (bl s))[n]?=some b:=by
      have:(cP b (bl s)++b :: (bl s).drop ((cP b (bl s)).length+1))[n]?=some b:=by rw [← hp]; exact h3
      rwa [List.getElem?_append_left wQ] at this
     exact fG b (bl s) (List.mem_of_getElem? h6)
    ·rw [zE]
    ·exact absurd h5 (h4 _ Ag)
 rw [show s.data.toList=bl s from rfl,h1]
theorem gP (e:dA) (w:World) (h1:e.c.size≤1000000000) (h2:e.r.size≤1000000000) :
  Calls wH 46 #[e.val] w fun en w'=>en=.returned (.bool e.ok)∧Below w.heap.size w w':=by
 have hb0:=bZ w (.cells #[wG e.c,wG e.r] 62)
 have HO:=jZ e.ok_spec
 by_cases h0:1≤e.c.size
 ·have n1:=pq h0
  have n2:(e.c.toList.isEmpty)=false:=by simpa using n1
  have H0:Hid (decide (1≤e.c.size)=true):=jD h0
  clear h0
  go_enter Tryz.func46,Tryz.ntmps46
  go_wp2_with (first | (go_at_call 83; refine (sh _ _ _ (by assumption)).mono ?_; rintro e w' ⟨rfl,rfl⟩) | (go_at_call 84; refine (qa _ 64 _ (by assumption)).mono ?_; rintro e w' ⟨rfl,rfl⟩))
  all_goals (go_ret; exact ⟨by rw [HO.out,H0.out]; simp [*],hb0⟩)
 ·have n1:=po h0
  have n2:(e.c.toList.isEmpty)=true:=by simp [n1]
  have H0:Hid (decide (1≤e.c.size)=false):=jE h0
  clear h0
  go_enter Tryz.func46,Tryz.ntmps46
  go_wp2
  go_ret
  exact ⟨by rw [HO.out,H0.out]; rfl,hb0⟩
theorem fx (e:dA) (w:World) (h1:e.c.size≤1000000000) (h2:e.r.size≤1000000000) :
  Calls wH 51 #[e.val] w fun en w'=>en=.returned (.bool e.ok)∧Below w.heap.size w w':=by
 have hb0:=bZ w (.cells #[wG e.c,wG e.r] 62)
 have HO:=jZ e.ok_impl
 go_enter Tryz.func51,Tryz.ntmps51
 go_wp2_with (first | (go_at_call 75; refine (aN _ _ _ _).mono ?_; rintro e w' ⟨rfl,rfl⟩) | (go_at_call 94; refine (nj _ _ (by assumption)).mono ?_; rintro e w' ⟨rfl,rfl⟩) | (go_at_call 95; refine (kW _ 64 _).mono ?_; rintro e w' ⟨rfl,rfl⟩))
 all_goals (go_ret; refine ⟨?_,hb0⟩; rw [HO.out]; simp [*] <;> omega)
theorem rc {s:ByteArray} {k h:Nat} (hk:k < s.size):gZ h ((bl s).drop k)=gZ ((41 * h+s[k].toNat+1) % 999979) ((bl s).drop (k+1)):=by rw [kC hk]; rfl
theorem ue (s:ByteArray) (w:World) (hs:s.size≤1000000000) :
  Calls wH 179 #[wG s] w fun e w'=>e=.returned (O U (jz (bl s)))∧w=w':=by
 have HF:Hid (gZ 7 ((bl s).drop 0)=jz (bl s)):=rfl
 go_enter Tryz.func179,Tryz.ntmps179
 go_wp2
 go_loop [3,4] (fun n i=>∃ k h:Nat,k≤s.size∧i=O U k∧n=O U h∧h < 999979∧Hid (gZ h ((bl s).drop k)=jz (bl s))) (fun _ i=>s.size - (intOf i).toNat)
 case atStart=>exact ⟨0,7,Nat.zero_le _,rfl,rfl,oM,HF⟩
 case round =>
  obtain ⟨k,h,hk,rfl,rfl,hh,HR⟩:=hrel
  by_cases wQ:k < s.size
  ·have HD:=jZ (rc (h:=h) wQ)
   have u1:(s[k].toNat:Int)≤255:=by have:=UInt8.toNat_lt s[k]; omega
   have HM:Hid ((41 * (h:Int)+(s[k].toNat:Int)+1) % 999979=(((41 * h+s[k].toNat+1) % 999979:Nat):Int)):=by unfold Hid; omega
   have HB:Hid ((41 * h+s[k].toNat+1) % 999979 < 999979):=Nat.mod_lt _ oM
   have e1:(41 * (h:Int)+(s[k].toNat:Int)+1).tmod 999979=(41 * (h:Int)+(s[k].toNat:Int)+1) % 999979:=Int.tmod_eq_emod_of_nonneg oM
   go_wp2
   go_round
   case rel=>exact ⟨k+1,(41 * h+s[k].toNat+1) % 999979,oM,by go_num,congrArg _ HM.out,HB.out,by have h1:=HR.out; rw [HD.out] at h1; exact h1⟩
   case measure=>simp [intOf]; omega
  ·have HK:Hid (h=jz (bl s)):=by
    have h1:=HR.out
    rw [List.drop_eq_nil_of_le (by rw [an]; omega)] at h1; exact h1
   go_wp2
   go_ret
   exact ⟨by rw [← HK.out]; rfl,rfl⟩
theorem qd (s:ByteArray) (w:World) (hs:s.size≤1000000000) :
  Calls wH 187 #[wG s] w fun e w'=>e=.returned (.tuple #[O U (if s.size≤4000 then (jz (bl s):Int) else 0),.bool (decide (s.size≤4000))])∧w=w':=by
 by_cases h4:s.size≤4000
 ·have d4:decide (4000 < (s.size:Int))=false:=jE oM
  have HF:Hid (gZ 7 ((bl s).drop 0)=jz (bl s)):=rfl
  rw [if_pos h4,jD h4]
  have H4:=jZ h4
  go_enter Tryz.func187,Tryz.ntmps187
  go_wp2
  go_loop [4,5,11] (fun n _ i=>∃ k h:Nat,k≤s.size∧i=O U k∧n=O U h∧h < 999979∧Hid (gZ h ((bl s).drop k)=jz (bl s))) (fun _ _ i=>s.size - (intOf i).toNat)
  case atStart=>exact ⟨0,7,Nat.zero_le _,rfl,rfl,oM,HF⟩
  case round =>
   obtain ⟨k,h,hk,rfl,rfl,hh,HR⟩:=hrel
   by_cases wQ:k < s.size
   ·have HD:=jZ (rc (h:=h) wQ)
    have u1:(s[k].toNat:Int)≤255:=by have:=UInt8.toNat_lt s[k]; omega
    have HM:Hid ((41 * (h:Int)+(s[k].toNat:Int)+1) % 999979=(((41 * h+s[k].toNat+1) % 999979:Nat):Int)):=by unfold Hid; omega
    have HB:Hid ((41 * h+s[k].toNat+1) % 999979 < 999979):=Nat.mod_lt _ oM
    have e1:(41 * (h:Int)+(s[k].toNat:Int)+1).tmod 999979=(41 * (h:Int)+(s[k].toNat:Int)+1) % 999979:=Int.tmod_eq_emod_of_nonneg oM
    go_wp2
    go_round
    case rel=>exact ⟨k+1,(41 * h+s[k].toNat+1) % 999979,oM,by go_num,congrArg _ HM.out,HB.out,by have h1:=HR.out; rw [HD.out] at h1; exact h1⟩
    case measure=>simp [intOf]; omega
   ·have HK:Hid (h=jz (bl s)):=by
     have h1:=HR.out
     rw [List.drop_eq_nil_of_le (by rw [an]; omega)] at h1; exact h1
    go_wp2
    go_ret2
    exact ⟨by rw [← HK.out]; rfl,rfl⟩
 ·have d4:decide (4000 < (s.size:Int))=true:=jD oM
  rw [if_neg h4,jE h4]
  clear h4
  go_enter Tryz.func187,Tryz.ntmps187
  go_wp2
  go_ret2
  exact ⟨rfl,rfl⟩
theorem sj {s:ByteArray} {l:List UInt8} (h:bl s=l):Ending.returned (wG s)=.returned (wG ⟨l.toArray⟩):=by rw [ee h]
theorem sl (s:ByteArray) (w:World) (hs:s.size≤1000000000) :
  Calls wH 144 #[wG s] w fun e w'=>e=.returned (wG ⟨(eE (bl s)).toArray⟩)∧Below w.heap.size w w':=by
 have hl:=pX (bl s)
 have HS:=jZ (fun W=>ue s W hs)
 have HN:=jZ (fun W=>bP (jz (bl s):Int) W oM oM)
 have xQ:(⟨(Lib.itoa (jz (bl s):Int)).toArray⟩ : ByteArray).size≤100:=bD oM oM
 obtain ⟨t,ht⟩ : ∃ t:ByteArray,t=⟨(Lib.itoa (jz (bl s):Int)).toArray⟩:=⟨_,rfl⟩
 rw [← ht] at HN xQ
 have HT:Hid (bl t=Lib.itoa (jz (bl s):Int)):=by rw [ht,Hid,bo]
 clear ht
 go_enter Tryz.func144,Tryz.ntmps144
 go_wp2_with (first | (go_at_call 179; refine (HS.out _).mono ?_; rintro e w' ⟨rfl,rfl⟩) | (go_at_call 71; refine (HN.out _).mono ?_; rintro e w1 ⟨rfl,wN⟩))
 go_ret
 exact ⟨sj (by rw [cE,cE,HT.out]; unfold eE; simp [mn]),wN⟩
theorem mX (k:Nat) (e:dA) (w:World) (hk:k≤1000) (h1:e.c.size≤1000000) (h2:e.r.size≤1000000) :
  Calls wH 90 #[O U k,e.val] w fun en w'=>en=.returned (wG ⟨(bT k (bl e.c) (bl e.r)).toArray⟩)∧Below w.heap.size w w':=by
 have b1:=bZ w (.cells #[wG e.c,wG e.r] 62)
 have L1:=ai.new w 62 #[wG e.c,wG e.r]
 obtain ⟨t,ht⟩ : ∃ t:ByteArray,t=⟨(Lib.itoa (k:Int)).toArray⟩:=⟨_,rfl⟩
 have BT:t.size≤100:=by rw [ht]; exact bD oM oM
 have HN:Hid (∀ W,Calls wH 71 #[O U k] W fun e w'=>e=.returned (wG t)∧Below W.heap.size W w'):=fun W=>by rw [ht]; exact bP (k:Int) W oM oM
 have HT:Hid (bl t=Lib.itoa (k:Int)):=by rw [ht,Hid,bo]
 clear ht
 obtain ⟨x,hx⟩ : ∃ x:ByteArray,x=t++⟨#[32]⟩++e.c++⟨#[64]⟩++e.r:=⟨_,rfl⟩
 have BJ:x.size≤3000000:=by rw [hx]; simp only [bg]; (have e1:(⟨#[32]⟩ : ByteArray).size=1:=rfl); (have e2:(⟨#[64]⟩ : ByteArray).size=1:=rfl); omega
 obtain ⟨z,hz⟩ : ∃ z:ByteArray,z=⟨(eE (bl x)).toArray⟩:=⟨_,rfl⟩
 have yh:z.size≤4000000:=by rw [← an,hz,bo]; have:=lL (bl x); rw [an] at this; omega
 have Jy:Hid (∀ W,Calls wH 144 #[wG (t++⟨#[32]⟩++e.c++⟨#[64]⟩++e.r)] W fun e w'=>e=.returned (wG z)∧Below W.heap.size W w'):=fun W=>by rw [hz,← hx]; exact sl x W oM
 have HF:Hid (bl (z++⟨#[10]⟩)=bT k (bl e.c) (bl e.r)):=by
  rw [Hid,cE,hz,bo,hx]
  unfold bT eU
  simp [cE,mn,HT.out]
 clear hz hx
 have z1:(⟨#[32]⟩ : ByteArray).size=1:=rfl
 have z2:(⟨#[64]⟩ : ByteArray).size=1:=rfl
 have z3:(⟨#[10]⟩ : ByteArray).size=1:=rfl
 go_enter Tryz.func90,Tryz.ntmps90
 go_wp2_with fail
 generalize w.alloc (.cells #[wG e.c,wG e.r] 62)=W at b1 L1 ⊢
 generalize hg:w.heap.size=g at L1 ⊢
 have c0:∀ p:ap W.heap.size W,p.val.cell? ⟨g,0,none⟩=some (wG e.c):=fun p=>(p.cell L1.lt).trans (L1.cell 0)
 have c1:∀ p:ap W.heap.size W,p.val.cell? ⟨g,1,none⟩=some (wG e.r):=fun p=>(p.cell L1.lt).trans (L1.cell 1)
 clear L1
 refine au kZ kZ ?_
 repeat (any_goals (first | go_big_quiet_step ((first | (go_at_call 71; refine aC nR (HN.out _)) | (go_at_call 144; refine aC nR (Jy.out _)))) | (refine wpQuiet_step (fun K hK=>?_); go_simp; split <;> (refine hK _ ?_; clear hK K))))
 all_goals (refine wpQuiet_nil ?_; rintro _ ⟨q1,rfl⟩)
 go_wp2
 go_ret
 exact ⟨sj HF.out,by rw [← hg] at *; exact av b1 q1.below⟩
def gu (s:ByteArray):Bool:=decide (s.size≤4000) && !gj (bl s) 35 && decide ((eE (bl s)).length≤4000)
def iY (s:ByteArray):ByteArray:=if gu s then ⟨(eE (bl s)).toArray⟩ else ⟨#[]⟩
theorem iq (s:ByteArray) (w:World) (hs:s.size≤1000000000) (ht:hQ w) :
  Calls wH 158 #[wG s] w fun e w'=>e=.returned (.tuple #[wG (iY s),.bool (gu s)])∧Below w.heap.size w w':=by
 have HC:=jZ (fun W=>qd s W hs)
 by_cases h4:s.size≤4000
 ·rw [if_pos h4,jD h4] at HC
  have GC:=jZ (kW s 35)
  cases hh:gj (bl s) 35
  ·rw [hh] at GC
   have hl:=pX (bl s)
   obtain ⟨t,zn⟩ : ∃ t:ByteArray,t=⟨(Lib.itoa (jz (bl s):Int)).toArray⟩:=⟨_,rfl⟩
   have BT:t.size≤100:=by rw [zn]; exact bD oM oM
   have HN:Hid (∀ W,hQ W→Calls wH 69 #[O U (jz (bl s):Int)] W fun e w'=>e=.returned (wG t)∧Below W.heap.size W w'):=fun W hW=>by rw [zn]; exact cq _ W oM oM hW
   have HT:Hid (bl t=Lib.itoa (jz (bl s):Int)):=by rw [zn,Hid,bo]
   clear zn
   have z1:(⟨#[35]⟩ : ByteArray).size=1:=rfl
   have GD:Hid (bl (s++⟨#[35]⟩++t)=eE (bl s)):=by
    rw [Hid,cE,cE,HT.out]; unfold eE; simp [mn]
   have AX:Hid ((s++⟨#[35]⟩++t).size=(eE (bl s)).length):=by rw [Hid,← an,GD.out]
   have HZ:Hid ((s++⟨#[35]⟩++t).size=s.size+1+t.size):=by rw [Hid,bg,bg]; rfl
   have HA:Hid (gu s=decide ((eE (bl s)).length≤4000)):=by unfold gu Hid; rw [hh,jD h4]; rfl
   clear hh h4
   by_cases h5:s.size+1+t.size≤4000
   ·have Cj:Hid (gu s=true):=by rw [Hid,HA.out,← AX.out,HZ.out]; exact jD h5
    have EM:Hid (iY s=s++⟨#[35]⟩++t):=by unfold iY Hid; rw [Cj.out,if_pos rfl]; exact (ee GD.out).symm
    have d5:decide ((4000:Int) < (s.size:Int)+1+(t.size:Int))=false:=jE oM
    go_enter Tryz.func158,Tryz.ntmps158
    go_wp2_with (first | (go_at_call 187; refine (HC.out _).mono ?_; rintro e w' ⟨rfl,rfl⟩) | (go_at_call 95; refine (GC.out _).mono ?_; rintro e w' ⟨rfl,rfl⟩) | (go_at_call 69; refine (HN.out _ (by assumption)).mono ?_; rintro e w1 ⟨rfl,wN⟩))
    go_ret2
    exact ⟨by rw [Cj.out,EM.out]; rfl,wN⟩
   ·have Cj:Hid (gu s=false):=by rw [Hid,HA.out,← AX.out,HZ.out]; exact jE h5
    have EM:Hid (iY s=⟨#[]⟩):=by unfold iY Hid; rw [Cj.out]; rfl
    have d5:decide ((4000:Int) < (s.size:Int)+1+(t.size:Int))=true:=jD oM
    go_enter Tryz.func158,Tryz.ntmps158
    go_wp2_with (first | (go_at_call 187; refine (HC.out _).mono ?_; rintro e w' ⟨rfl,rfl⟩) | (go_at_call 95; refine (GC.out _).mono ?_; rintro e w' ⟨rfl,rfl⟩) | (go_at_call 69; refine (HN.out _ (by assumption)).mono ?_; rintro e w1 ⟨rfl,wN⟩))
    go_ret2
    exact ⟨by rw [Cj.out,EM.out]; rfl,wN⟩
  ·rw [hh] at GC
   have Cj:Hid (gu s=false):=by unfold gu Hid; rw [hh]; simp
   have EM:Hid (iY s=⟨#[]⟩):=by unfold iY Hid; rw [Cj.out]; rfl
   clear hh h4
   go_enter Tryz.func158,Tryz.ntmps158
   go_wp2_with (first | (go_at_call 187; refine (HC.out _).mono ?_; rintro e w' ⟨rfl,rfl⟩) | (go_at_call 95; refine (GC.out _).mono ?_; rintro e w' ⟨rfl,rfl⟩))
   go_ret2
   exact ⟨by rw [Cj.out,EM.out]; rfl,Below.refl _ _⟩
 ·rw [if_neg h4,jE h4] at HC
  have Cj:Hid (gu s=false):=by unfold gu Hid; rw [jE h4]; rfl
  have EM:Hid (iY s=⟨#[]⟩):=by unfold iY Hid; rw [Cj.out]; rfl
  clear h4
  go_enter Tryz.func158,Tryz.ntmps158
  go_wp2_with (first | (go_at_call 187; refine (HC.out _).mono ?_; rintro e w' ⟨rfl,rfl⟩))
  go_ret2
  exact ⟨by rw [Cj.out,EM.out]; rfl,Below.refl _ _⟩
theorem lh {l:List UInt8} {b:UInt8} : gj l b=false ↔ b ∉ l:=by unfold gj; simp
theorem pr {l:List UInt8} {b:UInt8} : gj l b=true ↔ b ∈ l:=by unfold gj; simp
theorem jj {s:ByteArray} : gu s=true ↔ s.size≤4000∧(35:UInt8) ∉ bl s∧(eE (bl s)).length≤4000:=by
 unfold gu; simp [Bool.and_eq_true,lh,and_assoc]
theorem mo (k:Nat) (e:dA) (w:World) (hk:k≤1000) (wP:e.ok=true) (ht:hQ w) :
  Calls wH 100 #[O U k,e.val] w fun en w'=>en=.returned (wG ⟨(bT k (bl e.c) (bl e.r)).toArray⟩)∧Below w.heap.size w w':=by
 have b1:=bZ w (.cells #[wG e.c,wG e.r] 62)
 have L1:=ai.new w 62 #[wG e.c,wG e.r]
 have yg:=ht.then b1
 obtain ⟨_,h1,_,_,_,h2⟩:=de.1 wP
 rw [an] at h1 h2
 obtain ⟨t,zn⟩ : ∃ t:ByteArray,t=⟨(Lib.itoa (k:Int)).toArray⟩:=⟨_,rfl⟩
 have BT:t.size≤100:=by rw [zn]; exact bD oM oM
 have HN:Hid (∀ W,hQ W→Calls wH 69 #[O U k] W fun e w'=>e=.returned (wG t)∧Below W.heap.size W w'):=fun W hW=>by rw [zn]; exact cq (k:Int) W oM oM hW
 have HT:Hid (bl t=Lib.itoa (k:Int)):=by rw [zn,Hid,bo]
 clear zn
 obtain ⟨x,hx⟩ : ∃ x:ByteArray,x=t++⟨#[32]⟩++e.c++⟨#[64]⟩++e.r:=⟨_,rfl⟩
 have DT:bl x=eU k (bl e.c) (bl e.r):=by rw [hx]; unfold eU; simp [cE,mn,HT.out]
 have GE:gu x=true:=by
  rw [jj,DT]
  have h3:=nx (k:=k) wP oM
  have h4:=lL (eU k (bl e.c) (bl e.r))
  exact ⟨by rw [← an,DT]; omega,gh wP,oM⟩
 obtain ⟨z,hz⟩ : ∃ z:ByteArray,z=⟨(eE (bl x)).toArray⟩:=⟨_,rfl⟩
 have yh:z.size≤4000:=by rw [← an,hz,bo]; exact (jj.1 GE).2.2
 have BJ:x.size≤4000:=(jj.1 GE).1
 have Jy:Hid (∀ W,hQ W→Calls wH 158 #[wG (t++⟨#[32]⟩++e.c++⟨#[64]⟩++e.r)] W fun e w'=>e=.returned (.tuple #[wG z,.bool true])∧Below W.heap.size W w'):=fun W hW=>by
  have:=iq x W oM hW
  rw [show iY x=z by unfold iY; rw [GE,if_pos rfl,hz],GE] at this
  rw [← hx]; exact this
 have HF:Hid (bl (z++⟨#[10]⟩)=bT k (bl e.c) (bl e.r)):=by
  rw [Hid,cE,hz,bo,DT]
  unfold bT; simp [mn]
 clear hz hx DT GE wP
 have z1:(⟨#[32]⟩ : ByteArray).size=1:=rfl
 have z2:(⟨#[64]⟩ : ByteArray).size=1:=rfl
 have z3:(⟨#[10]⟩ : ByteArray).size=1:=rfl
 go_enter Tryz.func100,Tryz.ntmps100
 go_wp2_with fail
 generalize w.alloc (.cells #[wG e.c,wG e.r] 62)=W at b1 L1 yg ⊢
 generalize hg:w.heap.size=g at L1 ⊢
 have c0:∀ p:ap W.heap.size W,p.val.cell? ⟨g,0,none⟩=some (wG e.c):=fun p=>(p.cell L1.lt).trans (L1.cell 0)
 have c1:∀ p:ap W.heap.size W,p.val.cell? ⟨g,1,none⟩=some (wG e.r):=fun p=>(p.cell L1.lt).trans (L1.cell 1)
 clear L1
 refine au kZ kZ ?_
 repeat (any_goals (first | go_big_quiet_step ((first | (go_at_call 69; refine aC nR (HN.out _ (yg.at _))) | (go_at_call 158; refine aC nR (Jy.out _ (yg.at _))))) | (refine wpQuiet_step (fun K hK=>?_); go_simp; split <;> (refine hK _ ?_; clear hK K))))
 all_goals (refine wpQuiet_nil ?_; rintro _ ⟨q1,rfl⟩)
 go_wp2
 go_ret
 exact ⟨sj HF.out,by rw [← hg] at *; exact av b1 q1.below⟩
open Classical in
noncomputable def lM (s:List UInt8):Option (List UInt8):=if h:∃ t,qs t s then some h.choose else none
theorem pu {t s:List UInt8} (h:qs t s):lM s=some t:=by
 have zK:∃ t,qs t s:=⟨t,h⟩
 unfold lM
 rw [dif_pos zK]
 exact congrArg some (zK.choose_spec.inj h)
theorem mp {s:List UInt8} (h:∀ t,¬ qs t s):lM s=none:=by unfold lM; rw [dif_neg (fun ⟨t,ht⟩=>h t ht)]
theorem u9 {t s:List UInt8} (h:lM s=some t):qs t s:=by
 by_cases zK:∃ t,qs t s
 ·unfold lM at h
  rw [dif_pos zK] at h
  have:=zK.choose_spec
  rw [Option.some.inj h] at this
  exact this
 ·unfold lM at h
  rw [dif_neg zK] at h; cases h
theorem re {t s:List UInt8} (h:qs t s):Lib.lastIndex s [35]=t.length:=by rw [← h.2.1]; exact uc t
theorem vc {t s:List UInt8} (h:qs t s):s.take t.length=t:=by rw [← h.2.1]; unfold eE; exact List.take_left' rfl
def vN:Option (List UInt8)→ByteArray
 | some t=>⟨t.toArray⟩
 | none=>⟨#[]⟩
theorem lN (a b:ByteArray):(a.toList == b.toList)=decide (bl a=bl b):=by
 rw [wv,wv,Bool.eq_iff_iff]; simp
theorem sn (s:ByteArray) (w:World) (hs:s.size≤1000000000) (ht:hQ w) :
  Calls wH 169 #[wG s] w fun e w'=>e=.returned (.tuple #[wG (vN (lM (bl s))),.bool (lM (bl s)).isSome])∧Below w.heap.size w w':=by
 have HL:Hid (∀ W,Calls wH 194 #[wG s,wG ⟨#[35]⟩] W fun e w'=>e=.returned (O U (Lib.lastIndex (bl s) [35]))∧w'=W):=fun W=>Tryz.strings_LastIndex s ⟨#[35]⟩ oM W
 rcases qV (bl s) 35 with h1 | ⟨i,h1,h2,h3⟩
 ·have HV:Hid (lM (bl s)=none):=mp fun t hv=>by have:=re hv; omega
  rw [h1] at HL
  clear h1
  go_enter Tryz.func169,Tryz.ntmps169
  go_wp2_with (go_at_call 194; refine (HL.out _).mono ?_; rintro e w' ⟨rfl,rfl⟩)
  go_ret2
  exact ⟨by rw [HV.out]; rfl,Below.refl _ _⟩
 ·rw [h1] at HL
  have hi:i < s.size:=h2
  obtain ⟨t,zn⟩ : ∃ t:ByteArray,t=s.extract 0 i:=⟨_,rfl⟩
  have zC:bl t=(bl s).take i:=by rw [zn,bI]; simp
  have HC:Hid (∀ W,hQ W→Calls wH 158 #[wG (s.extract 0 i)] W fun e w'=>e=.returned (.tuple #[wG (iY t),.bool (gu t)])∧Below W.heap.size W w'):=fun W hW=>by
   rw [← zn]; exact iq t W (by rw [← an,zC,List.length_take,an]; omega) hW
  have Da:Hid (∀ t',qs t' (bl s)→t'=bl t∧gu t=true∧iY t=s):=fun t' hv=>by
   have e1:=re hv
   have e2:t'.length=i:=oM
   have e3:=vc hv
   rw [e2,← zC] at e3
   subst e3
   have e4:gu t=true:=jj.2 ⟨by rw [← an]; exact hv.2.2.1,hv.1,by rw [hv.2.1]; exact hv.2.2.2⟩
   refine ⟨rfl,e4, ?_⟩
   unfold iY
   rw [e4,if_pos rfl,hv.2.1]
   exact (ee rfl).symm
  have DU:Hid (gu t=true→bl (iY t)=bl s→qs (bl t) (bl s)):=fun h5 h6=>by
   obtain ⟨a1,a2,a3⟩:=jj.1 h5
   have a4:bl (iY t)=eE (bl t):=by unfold iY; rw [h5,if_pos rfl,bo]
   exact ⟨a2,by rw [← a4]; exact h6,by rw [an]; exact a1,by rw [← h6,a4]; exact a3⟩
  clear h1 h2 h3
  cases wP:gu t
  ·have HV:Hid (lM (bl s)=none):=mp fun t' hv=>by have:=(Da.out t' hv).2.1; rw [wP] at this; cases this
   rw [wP] at HC
   clear wP Da DU zn zC
   go_enter Tryz.func169,Tryz.ntmps169
   go_wp2_with (first | (go_at_call 194; refine (HL.out _).mono ?_; rintro e w' ⟨rfl,rfl⟩) | (go_at_call 158; refine (HC.out _ (by assumption)).mono ?_; rintro e w1 ⟨rfl,wN⟩))
   go_ret2
   exact ⟨by rw [HV.out]; rfl,wN⟩
  ·rw [wP] at HC
   have wT:=lN (iY t) s
   by_cases zE:bl (iY t)=bl s
   ·have HV:Hid (lM (bl s)=some (bl t)):=pu (DU.out wP zE)
    have HT:Hid (vN (some (bl t))=s.extract 0 i):=by unfold vN Hid; rw [← zn]; exact (ee rfl).symm
    rw [jD zE] at wT
    clear wP Da DU zn zC zE
    generalize iY t=at' at HC wT
    go_enter Tryz.func169,Tryz.ntmps169
    go_wp2_with (first | (go_at_call 194; refine (HL.out _).mono ?_; rintro e w' ⟨rfl,rfl⟩) | (go_at_call 158; refine (HC.out _ (by assumption)).mono ?_; rintro e w1 ⟨rfl,wN⟩))
    go_ret2
    exact ⟨by rw [HV.out,HT.out]; rfl,wN⟩
   ·have HV:Hid (lM (bl s)=none):=mp fun t' hv=>by have:=(Da.out t' hv).2.2; exact zE (by rw [this])
    rw [jE zE] at wT
    clear wP Da DU zn zC zE
    generalize iY t=at' at HC wT
    go_enter Tryz.func169,Tryz.ntmps169
    go_wp2_with (first | (go_at_call 194; refine (HL.out _).mono ?_; rintro e w' ⟨rfl,rfl⟩) | (go_at_call 158; refine (HC.out _ (by assumption)).mono ?_; rintro e w1 ⟨rfl,wN⟩))
    go_ret2
    exact ⟨by rw [HV.out]; rfl,wN⟩
theorem n7 (l:List UInt8) (b:UInt8):(b ∉ l∧Lib.indexByte l b = -1) ∨ (b ∈ l∧Lib.indexByte l b=(cP b l).length):=by
 induction l with
 | nil=>exact .inl ⟨sP,rfl⟩
 | cons x l ih =>
  unfold Lib.indexByte cP
  by_cases h:x=b
  ·subst h; exact .inr ⟨sP,sP⟩
  ·have h' : (x == b)=false:=by simp [h]
   rw [if_neg (by simp [h]),if_neg h]
   rcases ih with ⟨h1,h2⟩ | ⟨h1,h2⟩
   ·exact .inl ⟨by simp only [List.mem_cons,not_or]; exact ⟨Ne.symm h,h1⟩,by rw [h2]; rfl⟩
   ·refine .inr ⟨by simp [h1], ?_⟩
    rw [h2,if_neg sP]; simp
def aV (s:ByteArray) (b:UInt8):ByteArray:=⟨(cP b (bl s)).toArray⟩
def bh (s:ByteArray) (b:UInt8):ByteArray:=⟨((bl s).drop ((cP b (bl s)).length+1)).toArray⟩
theorem so (s:ByteArray) (b:UInt8) (w:World) (hs:s.size≤1000000000) :
  Calls wH 196 #[wG s,wG ⟨#[b]⟩] w fun e w'=>e=.returned (.tuple #[wG (aV s b),wG (bh s b),.bool (gj (bl s) b)])∧Below w.heap.size w w':=by
 have HI:=jZ (fun W=>Tryz.stringslite_Index_one s b W)
 have hb:=lJ b (bl s)
 rw [an] at hb
 rcases n7 (bl s) b with ⟨h1,h2⟩ | ⟨h1,h2⟩
 ·rw [show s.data.toList=bl s from rfl,h2] at HI
  have HL:Hid (aV s b=s):=by unfold aV Hid; rw [lI h1]; exact (ee rfl).symm
  have HR:Hid (bh s b=⟨#[]⟩):=by unfold bh Hid; rw [lI h1,List.drop_eq_nil_of_le oM]
  have HF:Hid (gj (bl s) b=false):=lh.2 h1
  clear h1 h2
  go_enter Tryz.func196,Tryz.ntmps196
  go_wp2_with (go_at_call 180; refine (HI.out _).mono ?_; rintro e w' ⟨rfl,rfl⟩)
  go_ret3
  exact ⟨by rw [HL.out,HR.out,HF.out]; rfl,Below.refl _ _⟩
 ·rw [show s.data.toList=bl s from rfl,h2] at HI
  have hp:=congrArg List.length (dd h1)
  rw [an] at hp
  simp only [List.length_append,List.length_cons,List.length_drop,an] at hp
  have HF:Hid (gj (bl s) b=true):=pr.2 h1
  obtain ⟨n,hn⟩ : ∃ n,n=(cP b (bl s)).length:=⟨_,rfl⟩
  have HL:Hid (aV s b=s.extract 0 n):=by
   unfold aV Hid; refine (ee ?_).symm
   rw [bI,hn,nT]; simp
  have HR:Hid (bh s b=s.extract (n+1) s.size):=by
   unfold bh Hid; refine (ee ?_).symm
   rw [bI,hn,List.take_of_length_le (by rw [an]; omega)]
  rw [← hn] at HI hp hb
  have z1:(⟨#[b]⟩ : ByteArray).size=1:=rfl
  have zv:n+1≤s.size:=oM
  have i0:(0:Int)≤(n:Int):=oM
  have i1:(n:Int)≤(s.size:Int):=oM
  have i2:(n:Int)+1≤(s.size:Int):=oM
  have i3:IntKind.i64.wrap ((n:Int)+1)=(n:Int)+1:=IntWalk.i64_in _ oM
  clear hn hp h1 h2
  go_enter Tryz.func196,Tryz.ntmps196
  go_wp2_with (go_at_call 180; refine (HI.out _).mono ?_; rintro e w' ⟨rfl,rfl⟩)
  refine au kZ kZ ?_
  repeat (any_goals (first | go_big_quiet_step ((fail)) | (refine wpQuiet_step (fun K hK=>?_); go_simp; split <;> (refine hK _ ?_; clear hK K))))
  all_goals (refine wpQuiet_nil ?_; rintro _ ⟨q1,rfl⟩)
  go_wp2
  go_ret3
  exact ⟨by rw [HL.out,HR.out,HF.out]; rfl,q1.below⟩
theorem qe (s:ByteArray) (b:UInt8) (w:World) (hs:s.size≤1000000000) :
  Calls wH 171 #[wG s,wG ⟨#[b]⟩] w fun e w'=>e=.returned (.tuple #[wG (aV s b),wG (bh s b),.bool (gj (bl s) b)])∧Below w.heap.size w w':=by
 have HC:=jZ (fun W=>so s b W hs)
 go_enter Tryz.func171,Tryz.ntmps171
 go_wp2_with (go_at_call 196; refine (HC.out _).mono ?_; rintro e w1 ⟨rfl,wN⟩)
 go_ret3
 exact ⟨rfl,wN⟩
def wm (k:Nat) (s:ByteArray) (a b:ByteArray) (ok:Bool):Prop:=(ok=true∧ed k (bl s)=some (bl a,bl b)) ∨ (ok=false∧ed k (bl s)=none)
def n8 (k:Nat) (s:ByteArray) (w:World) (e:Ending) (w' : World):Prop:=∃ a b ok,e=.returned (.tuple #[.agg #[wG a,wG b],.bool ok])∧wm k s a b ok∧Below w.heap.size w w'
theorem rf {p t:List UInt8} (h:p <+: t):t=p++t.drop p.length:=by
 obtain ⟨u,rfl⟩:=h; simp
set_option maxRecDepth 100000 in
theorem mq (k:Nat) (s:ByteArray) (w:World) (hk:k≤1000) (hs:s.size≤3000000) (ht:hQ w) :
  Calls wH 123 #[O U k,wG s] w (n8 k s w):=by
 have b1:=bZ w (.cells #[wG ⟨#[]⟩,wG ⟨#[]⟩] 62)
 have L1:=ai.new w 62 #[wG ⟨#[]⟩,wG ⟨#[]⟩]
 have yg:=ht.then b1
 have DO:k≤9223372036854775807:=oM
 obtain ⟨t,zn⟩ : ∃ t:ByteArray,t=⟨(Lib.itoa (k:Int)).toArray⟩:=⟨_,rfl⟩
 have BT:t.size≤100:=by rw [zn]; exact bD oM oM
 have HN:Hid (∀ W,hQ W→Calls wH 69 #[O U k] W fun e w'=>e=.returned (wG t)∧Below W.heap.size W w'):=fun W hW=>by rw [zn]; exact cq (k:Int) W oM oM hW
 have HT:Hid (bl t=Lib.itoa (k:Int)):=by rw [zn,Hid,bo]
 have Bq:Hid (bl (t++⟨#[32]⟩)=Lib.itoa (k:Int)++[32]):=by rw [Hid,cE,HT.out]; rfl
 clear zn
 have z1:(⟨#[32]⟩ : ByteArray).size=1:=rfl
 have HV:=jZ (fun W hW=>sn s W oM hW)
 cases hv:lM (bl s) with
 | none =>
  rw [hv] at HV
  have HD:Hid (ed k (bl s)=none):=se DO fun u hu=>by rw [pu hu] at hv; cases hv
  have EN:Hid (∀ W,Calls wH 170 #[wG ⟨#[]⟩,wG (t++⟨#[32]⟩)] W fun e w'=>e=.returned (.tuple #[wG ⟨#[]⟩,.bool false])∧w'=W):=fun W=>by
   have h1:=Tryz.strings_CutPrefix ⟨#[]⟩ (t++⟨#[32]⟩) W
   have h2:Lib.hasPrefix (⟨#[]⟩ : ByteArray).data.toList (t++⟨#[32]⟩ : ByteArray).data.toList=false:=by
    unfold Lib.hasPrefix
    have:(t++⟨#[32]⟩ : ByteArray).data.toList=Lib.itoa (k:Int)++[32]:=Bq.out
    rw [this]
    cases Lib.itoa (k:Int) <;> rfl
   unfold Lib.trimPrefix at h1
   rw [h2] at h1
   exact h1
  have Bs:=jZ (fun W=>qe ⟨#[]⟩ 64 W dD)
  have e1:aV ⟨#[]⟩ 64=⟨#[]⟩:=rfl
  have e2:bh ⟨#[]⟩ 64=⟨#[]⟩:=rfl
  have e3:gj (bl ⟨#[]⟩) 64=false:=rfl
  rw [e1,e2,e3] at Bs
  clear e1 e2 e3 hv
  go_enter Tryz.func123,Tryz.ntmps123
  go_wp2_with fail
  generalize w.alloc (.cells #[wG ⟨#[]⟩,wG ⟨#[]⟩] 62)=W at b1 L1 yg ⊢
  generalize hg:w.heap.size=g at L1 ⊢
  refine (HV.out _ yg).mono ?_
  rintro e w2 ⟨rfl,wM⟩
  have DD:=yg.then wM
  go_wp2_with (first | (go_at_call 69; refine (HN.out _ DD).mono ?_; rintro e w3 ⟨rfl,wZ⟩) | (go_at_call 170; refine (EN.out _).mono ?_; rintro e w4 ⟨rfl,rfl⟩))
  refine (Bs.out _).mono ?_
  rintro e w5 ⟨rfl,hb5⟩
  have hb15:=av (av wM wZ) hb5
  have L5:=L1.below hb15 L1.lt
  have c0:=L5.cell 0
  have c1:=L5.cell 1
  obtain ⟨f0,f1⟩:=frz2 L5
  have DE:=L5.lt
  simp only [gz0,gz1] at c0 c1
  clear L1 L5
  go_wp2_with fail
  refine bodyPost_ret (v:=.tuple #[.agg #[wG ⟨#[]⟩,wG ⟨#[]⟩],.bool false]) (by simp [results,Tryz.results123,go_sem, *]) rfl ⟨⟨#[]⟩,⟨#[]⟩,false,rfl,.inr ⟨rfl,HD.out⟩, ?_⟩
  rw [← hg] at *
  exact (av b1 hb15).trans (by repeat (first | exact Below.refl _ _ | refine Below.alloc ?_ (by simp; have:=b1.size; have:=hb15.size; omega) _ | refine Below.setCell ?_ sP _))
 | some u0 =>
  obtain ⟨u,rfl⟩ : ∃ u:ByteArray,u0=bl u:=⟨⟨u0.toArray⟩,(bo u0).symm⟩
  have AL:=u9 hv
  have NY:u.size≤4000:=AL.2.2.1
  rw [hv] at HV
  have HO:Hid (vN (some (bl u))=u):=(ee rfl).symm
  rw [HO.out] at HV
  have EP:∀ W,Calls wH 170 #[wG u,wG (t++⟨#[32]⟩)] W fun e w'=>e=.returned (.tuple #[wG ⟨(Lib.trimPrefix (bl u) (Lib.itoa (k:Int)++[32])).toArray⟩,.bool (Lib.hasPrefix (bl u) (Lib.itoa (k:Int)++[32]))])∧w'=W:=fun W=>by
   rw [← Bq.out]; exact Tryz.strings_CutPrefix u (t++⟨#[32]⟩) W
  by_cases hp:(Lib.itoa (k:Int)++[32]) <+: bl u
  ·have Im:Lib.hasPrefix (bl u) (Lib.itoa (k:Int)++[32])=true:=List.isPrefixOf_iff_prefix.2 hp
   have hsplit:=rf hp
   obtain ⟨u',hu'⟩ : ∃ u' : ByteArray,u'=⟨((bl u).drop (Lib.itoa (k:Int)++[32]).length).toArray⟩:=⟨_,rfl⟩
   have Cz:bl u'=(bl u).drop (Lib.itoa (k:Int)++[32]).length:=by rw [hu',bo]
   rw [← Cz] at hsplit
   have EN:Hid (∀ W,Calls wH 170 #[wG u,wG (t++⟨#[32]⟩)] W fun e w'=>e=.returned (.tuple #[wG u',.bool true])∧w'=W):=fun W=>by
    have:=EP W
    unfold Lib.trimPrefix at this
    rw [Im,if_pos rfl,← hu'] at this; exact this
   have NZ:u'.size≤4000:=by rw [← an,Cz,List.length_drop,an]; omega
   have Bs:=jZ (fun W=>qe u' 64 W oM)
   have xY:(aV u' 64).size≤4000:=by unfold aV; rw [← an,bo]; have:=lJ 64 (bl u'); rw [an] at this; omega
   have Lb:(bh u' 64).size≤4000:=by unfold bh; rw [← an,bo,List.length_drop,an]; omega
   cases hat:gj (bl u') 64
   ·have HD:Hid (ed k (bl s)=none):=ud DO AL hsplit (lh.1 hat)
    rw [hat] at Bs
    clear hv AL EP hp Im hsplit hu' Cz hat
    go_enter Tryz.func123,Tryz.ntmps123
    go_wp2_with fail
    generalize w.alloc (.cells #[wG ⟨#[]⟩,wG ⟨#[]⟩] 62)=W at b1 L1 yg ⊢
    generalize hg:w.heap.size=g at L1 ⊢
    refine (HV.out _ yg).mono ?_
    rintro e w2 ⟨rfl,wM⟩
    have DD:=yg.then wM
    go_wp2_with (first | (go_at_call 69; refine (HN.out _ DD).mono ?_; rintro e w3 ⟨rfl,wZ⟩) | (go_at_call 170; refine (EN.out _).mono ?_; rintro e w4 ⟨rfl,rfl⟩))
    refine (Bs.out _).mono ?_
    rintro e w5 ⟨rfl,hb5⟩
    have hb15:=av (av wM wZ) hb5
    have L5:=L1.below hb15 L1.lt
    have c0:=L5.cell 0
    have c1:=L5.cell 1
    obtain ⟨f0,f1⟩:=frz2 L5
    have DE:=L5.lt
    simp only [gz0,gz1] at c0 c1
    clear L1 L5
    go_wp2_with fail
    refine bodyPost_ret (v:=.tuple #[.agg #[wG ⟨#[]⟩,wG ⟨#[]⟩],.bool false]) (by simp [results,Tryz.results123,go_sem, *]) rfl ⟨⟨#[]⟩,⟨#[]⟩,false,rfl,.inr ⟨rfl,HD.out⟩, ?_⟩
    rw [← hg] at *
    exact (av b1 hb15).trans (by repeat (first | exact Below.refl _ _ | refine Below.alloc ?_ (by simp; have:=b1.size; have:=hb15.size; omega) _ | refine Below.setCell ?_ sP _))
   ·have xT:=qX (c:=bl (aV u' 64)) (r:=bl (bh u' 64)) DO AL (by
     rw [hsplit]; congr 1
     unfold aV bh; rw [bo,bo]; exact dd (pr.1 hat)) (by unfold aV; rw [bo]; exact fG 64 _)
    rw [hat] at Bs
    cases wP:dA.ok ⟨aV u' 64,bh u' 64⟩
    ·have HD:Hid (ed k (bl s)=none):=by
      rw [Hid,xT,if_neg (fun h=>by rw [show dA.ok ⟨aV u' 64,bh u' 64⟩=eY (bl (aV u' 64)) (bl (bh u' 64)) from rfl,h] at wP; cases wP)]
     have xf:=jZ wP
     clear hv AL EP hp Im hsplit hu' Cz hat xT wP
     go_enter Tryz.func123,Tryz.ntmps123
     go_wp2_with fail
     generalize w.alloc (.cells #[wG ⟨#[]⟩,wG ⟨#[]⟩] 62)=W at b1 L1 yg ⊢
     generalize hg:w.heap.size=g at L1 ⊢
     refine (HV.out _ yg).mono ?_
     rintro e w2 ⟨rfl,wM⟩
     have DD:=yg.then wM
     go_wp2_with (first | (go_at_call 69; refine (HN.out _ DD).mono ?_; rintro e w3 ⟨rfl,wZ⟩) | (go_at_call 170; refine (EN.out _).mono ?_; rintro e w4 ⟨rfl,rfl⟩))
     refine (Bs.out _).mono ?_
     rintro e w5 ⟨rfl,hb5⟩
     have hb15:=av (av wM wZ) hb5
     have L5:=L1.below hb15 L1.lt
     go_wp2_with fail
     have L6:=L5.alloc (.cells #[wG (aV u' 64),wG (bh u' 64)] 62)
     have N6:=ai.new w5 62 #[wG (aV u' 64),wG (bh u' 64)]
     have b6:=(Below.refl w5.heap.size w5).alloc nR (.cells #[wG (aV u' 64),wG (bh u' 64)] 62)
     generalize w5.alloc (.cells #[wG (aV u' 64),wG (bh u' 64)] 62)=W6 at L6 N6 b6 ⊢
     generalize yy:w5.heap.size=g5 at N6 ⊢
     refine (fx ⟨aV u' 64,bh u' 64⟩ _ (by simp only; omega) (by simp only; omega)).mono ?_
     rw [xf.out]
     rintro e w7 ⟨rfl,yJ⟩
     have L7:=L6.below yJ L6.lt
     have N7:=N6.below yJ N6.lt
     have c0:=L7.cell 0
     have c1:=L7.cell 1
     obtain ⟨f0,f1⟩:=frz2 L7
     have d0:=N7.cell 0
     have d1:=N7.cell 1
     have DE:=L7.lt
     simp only [gz0,gz1] at c0 c1 d0 d1
     have hgB:w.heap.size≤g:=oM
     have xF:Below w.heap.size w w7:=av (av b1 hb15) (av (by rw [← yy] at *; exact b6) yJ)
     clear L1 L5 L6 L7 N6 N7
     go_wp2_with fail
     refine bodyPost_ret (v:=.tuple #[.agg #[wG ⟨#[]⟩,wG ⟨#[]⟩],.bool false]) (by simp [results,Tryz.results123,go_sem, *]) rfl ⟨⟨#[]⟩,⟨#[]⟩,false,rfl,.inr ⟨rfl,HD.out⟩, ?_⟩
     exact xF.trans (by repeat (first | exact Below.refl _ _ | refine Below.setCell ?_ (by simp only; exact hgB) _))
    ·have HD:Hid (ed k (bl s)=some (bl (aV u' 64),bl (bh u' 64))):=by
      rw [Hid,xT,if_pos (by exact wP)]
     have xf:=jZ wP
     clear hv AL EP hp Im hsplit hu' Cz hat xT wP
     go_enter Tryz.func123,Tryz.ntmps123
     go_wp2_with fail
     generalize w.alloc (.cells #[wG ⟨#[]⟩,wG ⟨#[]⟩] 62)=W at b1 L1 yg ⊢
     generalize hg:w.heap.size=g at L1 ⊢
     refine (HV.out _ yg).mono ?_
     rintro e w2 ⟨rfl,wM⟩
     have DD:=yg.then wM
     go_wp2_with (first | (go_at_call 69; refine (HN.out _ DD).mono ?_; rintro e w3 ⟨rfl,wZ⟩) | (go_at_call 170; refine (EN.out _).mono ?_; rintro e w4 ⟨rfl,rfl⟩))
     refine (Bs.out _).mono ?_
     rintro e w5 ⟨rfl,hb5⟩
     have hb15:=av (av wM wZ) hb5
     have L5:=L1.below hb15 L1.lt
     go_wp2_with fail
     have L6:=L5.alloc (.cells #[wG (aV u' 64),wG (bh u' 64)] 62)
     have N6:=ai.new w5 62 #[wG (aV u' 64),wG (bh u' 64)]
     have b6:=(Below.refl w5.heap.size w5).alloc nR (.cells #[wG (aV u' 64),wG (bh u' 64)] 62)
     generalize w5.alloc (.cells #[wG (aV u' 64),wG (bh u' 64)] 62)=W6 at L6 N6 b6 ⊢
     generalize yy:w5.heap.size=g5 at N6 ⊢
     refine (fx ⟨aV u' 64,bh u' 64⟩ _ (by simp only; omega) (by simp only; omega)).mono ?_
     rw [xf.out]
     rintro e w7 ⟨rfl,yJ⟩
     have L7:=L6.below yJ L6.lt
     have N7:=N6.below yJ N6.lt
     have c0:=L7.cell 0
     have c1:=L7.cell 1
     obtain ⟨f0,f1⟩:=frz2 L7
     have d0:=N7.cell 0
     have d1:=N7.cell 1
     have DE:=L7.lt
     simp only [gz0,gz1] at c0 c1 d0 d1
     have hgB:w.heap.size≤g:=oM
     have xF:Below w.heap.size w w7:=av (av b1 hb15) (av (by rw [← yy] at *; exact b6) yJ)
     clear L1 L5 L6 L7 N6 N7
     go_wp2_with fail
     refine bodyPost_ret (v:=.tuple #[.agg #[wG (aV u' 64),wG (bh u' 64)],.bool true]) (by simp [results,Tryz.results123,go_sem, *]) rfl ⟨aV u' 64,bh u' 64,true,rfl,.inl ⟨rfl,HD.out⟩, ?_⟩
     exact xF.trans (by repeat (first | exact Below.refl _ _ | refine Below.setCell ?_ (by simp only; exact hgB) _))
  ·have Ld:Lib.hasPrefix (bl u) (Lib.itoa (k:Int)++[32])=false:=by
    rcases h:Lib.hasPrefix (bl u) (Lib.itoa (k:Int)++[32]) with _ | _
    ·rfl
    ·exact absurd (List.isPrefixOf_iff_prefix.1 h) hp
   have HD:Hid (ed k (bl s)=none):=sf DO AL hp
   have EN:Hid (∀ W,Calls wH 170 #[wG u,wG (t++⟨#[32]⟩)] W fun e w'=>e=.returned (.tuple #[wG u,.bool false])∧w'=W):=fun W=>by
    have:=EP W
    unfold Lib.trimPrefix at this
    rw [Ld] at this
    simp only [Bool.false_eq_true,if_false] at this
    rwa [show (⟨(bl u).toArray⟩ : ByteArray)=u from (ee rfl).symm] at this
   have Bs:=jZ (fun W=>qe u 64 W oM)
   generalize gj (bl u) 64=hb at Bs
   clear hv AL EP hp Ld
   go_enter Tryz.func123,Tryz.ntmps123
   go_wp2_with fail
   generalize w.alloc (.cells #[wG ⟨#[]⟩,wG ⟨#[]⟩] 62)=W at b1 L1 yg ⊢
   generalize hg:w.heap.size=g at L1 ⊢
   refine (HV.out _ yg).mono ?_
   rintro e w2 ⟨rfl,wM⟩
   have DD:=yg.then wM
   go_wp2_with (first | (go_at_call 69; refine (HN.out _ DD).mono ?_; rintro e w3 ⟨rfl,wZ⟩) | (go_at_call 170; refine (EN.out _).mono ?_; rintro e w4 ⟨rfl,rfl⟩))
   refine (Bs.out _).mono ?_
   rintro e w5 ⟨rfl,hb5⟩
   have hb15:=av (av wM wZ) hb5
   have L5:=L1.below hb15 L1.lt
   have c0:=L5.cell 0
   have c1:=L5.cell 1
   obtain ⟨f0,f1⟩:=frz2 L5
   have DE:=L5.lt
   simp only [gz0,gz1] at c0 c1
   clear L1 L5
   go_wp2_with fail
   refine bodyPost_ret (v:=.tuple #[.agg #[wG ⟨#[]⟩,wG ⟨#[]⟩],.bool false]) (by simp [results,Tryz.results123,go_sem, *]) rfl ⟨⟨#[]⟩,⟨#[]⟩,false,rfl,.inr ⟨rfl,HD.out⟩, ?_⟩
   rw [← hg] at *
   exact (av b1 hb15).trans (by repeat (first | exact Below.refl _ _ | refine Below.alloc ?_ (by simp; have:=b1.size; have:=hb15.size; omega) _ | refine Below.setCell ?_ sP _))
def dP (ps:List (List UInt8)):List Value:=ps.map fun p=>Value.string ⟨p.toArray⟩
theorem uf (ps:List (List UInt8)):(dP ps).length=ps.length * 1:=by simp [dP]
theorem rg:(wH.info? 9).map (fun i=>(i.zero,i.size,i.bytes))=some (some (wG ⟨#[]⟩),1,16):=kZ
theorem sq {s:ByteArray} {f i:Nat} {b:UInt8} (Oa:f≤i) (hi:i < s.size) :
  dH b (((bl s).take i).drop f) ((bl s).drop i)=if s[i]=b then ((bl s).take i).drop f :: dH b (((bl s).take (i+1)).drop (i+1)) ((bl s).drop (i+1)) else dH b (((bl s).take (i+1)).drop f) ((bl s).drop (i+1)):=by
 rw [kC hi,dH]
 have e1:((bl s).take (i+1)).drop (i+1) = []:=List.drop_eq_nil_of_le (by rw [List.length_take]; omega)
 have e2:((bl s).take (i+1)).drop f=((bl s).take i).drop f++[s[i]]:=by
  rw [vM hi,List.drop_append_of_le_length (by rw [List.length_take,an]; omega)]
 rw [e1,e2]
set_option maxRecDepth 100000 in
theorem iN (s:ByteArray) (b:UInt8) (w:World) (hs:s.size≤100000000) :
  Calls wH 58 #[wG s,.int .u8 b.toNat] w fun e w'=>∃ A c,e=.returned (F A (aI b (bl s)).length c)∧w'.ownsRow w.heap.size 9 1 (F A (aI b (bl s)).length c) (aI b (bl s)).length (dP (aI b (bl s)))∧Below w.heap.size w w':=by
 have b0:=bZ w (.cells #[] 9)
 have O0:Hid ((w.alloc (.cells #[] 9)).ownsRow w.heap.size 9 1 (F (some ⟨w.heap.size,0,none⟩) 0 0) 0 (dP [])):=dw (ai.new w 9 #[]) nR
 have Ob:Hid (∀ l cur:List UInt8,(dH b cur l).length≤l.length+1):=gC b
 go_enter Tryz.func58,Tryz.ntmps58
 go_wp2
 go_loopw [5,6,7] (fun o fr i wr=>∃ (f k:Nat) (A:Option Addr) (c:Nat) (ps:List (List UInt8)),f≤k∧k≤s.size∧ps.length≤k∧o=F A ps.length c∧fr=O U f∧i=O U k∧(∃ q:ap w.heap.size w,wr=q.val) ∧
  Hid (aI b (bl s)=ps++dH b (((bl s).take k).drop f) ((bl s).drop k))∧Hid (wr.ownsRow w.heap.size 9 1 (F A ps.length c) ps.length (dP ps))) (fun _ _ i _=>s.size - (intOf i).toNat)
 case atStart=>exact ⟨0,0,some ⟨w.heap.size,0,none⟩,0,[],Nat.le_refl _,Nat.zero_le _,sP,rfl,rfl,rfl,⟨⟨_,b0⟩,rfl⟩,rfl,O0⟩
 case round =>
  obtain ⟨f,k,A,c,ps,FJ,hk,zL,rfl,rfl,rfl,⟨q,rfl⟩,HF,HR⟩:=hrel
  have FK:=q.size
  by_cases wQ:k < s.size
  ·have yW:=jZ (sq (b:=b) FJ wQ)
   have hq:=@vW s[k] b
   have i1:(f:Int)≤(k:Int):=oM
   have i2:(k:Int)≤(s.size:Int):=oM
   by_cases zE:s[k]=b
   ·rw [if_pos zE] at yW
    rw [jD zE] at hq
    have HB:Hid (bl (s.extract f k)=((bl s).take k).drop f):=bI _ _ _
    clear zE
    go_wp2_with (at_builtin; refine cF (w0:=q.val) rfl (.tmp 20) (.tmp 25) 49 rfl 9 (wG ⟨#[]⟩) 1 16 Tryz.underlying49 rg rfl (by omega) (by omega) w.heap.size _ _ _ rfl HR #[wG (s.extract f k)] 1 _ rfl (by first | rfl | simp | exact Array.size_push _) rfl (by simp [Value.oneCell']) (by omega) FK rfl rfl rfl rfl ?_; intro v5 w5 AJ yy hb5)
    obtain ⟨A5,c5,zW⟩:=az AJ.out
    subst zW
    go_roundw
    case rel =>
     refine ⟨k+1,k+1,A5,c5,ps++[((bl s).take k).drop f],Nat.le_refl _,oM,by simp; omega,sP,by go_num,by go_num,⟨q.go' hb5,rfl⟩, ?_, ?_⟩
     ·have h1:=HF.out; rw [yW.out] at h1; rw [Hid,h1]; simp
     ·have h1:=AJ.out; rw [Hid]
      have h2:dP (ps++[((bl s).take k).drop f])=dP ps++[Value.string (s.extract f k)]:=by unfold dP; rw [List.map_append,← HB.out]; simp [← ee rfl]
      rw [h2]; simpa using h1
    case measure=>simp [intOf]; omega
   ·rw [if_neg zE] at yW
    rw [jE zE] at hq
    clear zE
    go_wp2
    go_roundw
    case rel=>exact ⟨f,k+1,A,c,ps,oM,oM,oM,rfl,rfl,by go_num,⟨q,rfl⟩,by have h1:=HF.out; rw [yW.out] at h1; exact h1,HR⟩
    case measure=>simp [intOf]; omega
  ·obtain rfl:k=s.size:=oM
   have i1:(f:Int)≤(s.size:Int):=oM
   have HB:Hid (bl (s.extract f s.size)=((bl s).take s.size).drop f):=bI _ _ _
   have BR:Hid (aI b (bl s)=ps++[((bl s).take s.size).drop f]):=by
    have h1:=HF.out
    have e0:(bl s).drop s.size = []:=List.drop_eq_nil_of_le (by rw [an]; exact Nat.le_refl _)
    rw [e0] at h1; exact h1
   go_wp2_with (at_builtin; refine cF (w0:=q.val) rfl (.tmp 29) (.tmp 33) 49 rfl 9 (wG ⟨#[]⟩) 1 16 Tryz.underlying49 rg rfl (by omega) (by omega) w.heap.size _ _ _ rfl HR #[wG (s.extract f s.size)] 1 _ rfl (by first | rfl | simp | exact Array.size_push _) rfl (by simp [Value.oneCell']) (by omega) FK rfl rfl rfl rfl ?_; intro v5 w5 AJ yy hb5)
   obtain ⟨A5,c5,zW⟩:=az AJ.out
   subst zW
   go_ret
   have h2:dP (ps++[((bl s).take s.size).drop f])=dP ps++[Value.string (s.extract f s.size)]:=by unfold dP; rw [List.map_append,← HB.out]; simp [← ee rfl]
   rw [BR.out,h2]
   refine ⟨A5,c5,sP, ?_,(q.go' hb5).below⟩
   have h1:=AJ.out
   simpa using h1
theorem tC:(wH.info? 62).map (fun i=>(i.zero,i.size,i.bytes))=some (some (.agg #[wG ⟨#[]⟩,wG ⟨#[]⟩]),2,32):=kZ
theorem iO:(wH.info? 3).map (fun i=>(i.zero,i.size,i.bytes))=some (some (O U 0),1,8):=kZ
def dX (l:List ((List UInt8 × List UInt8) × Nat)) (m:List dA):Prop:=m.map (fun r=>(bl r.c,bl r.r))=l.map (·.1)
theorem gE {l:List ((List UInt8 × List UInt8) × Nat)} {m:List dA} (h:dX l m):m.length=l.length:=by
 have:=congrArg List.length h; simpa using this
def ug (l:List Nat):List Value:=l.map fun (n:Nat)=>Value.int .i64 (n:Int)
def jk (s:ByteArray) (w:World) (e:Ending) (w' : World):Prop:=∃ A c A' c' m,e=.returned (.tuple #[F A m.length c,F A' (m.length+1) c'])∧dX (aG 60 0 (bl s)) m ∧
 w'.ownsRow w.heap.size 62 2 (F A m.length c) m.length (m.flatMap dA.enc)∧w'.ownsRow w.heap.size 3 1 (F A' (m.length+1) c') (m.length+1) (ug (ew 0 (aG 60 0 (bl s))))∧Below w.heap.size w w'
set_option maxRecDepth 100000 in
theorem gU (s:ByteArray) (w:World) (hs:s.size≤3000000) (ht:hQ w) :
  Calls wH 68 #[wG s] w (jk s w):=by
 have b0:=bZ w (.cells #[O U 0] 3)
 have L0:=ai.new w 3 #[O U 0]
 have E0:Hid ((w.alloc (.cells #[O U 0] 3)).ownsRow w.heap.size 3 1 (F (some ⟨w.heap.size,0,none⟩) 1 1) 1 (ug (ew 0 []))):=L0.own nR sP (by unfold maxLen; omega)
 have wT:62 ≠ 3:=dD
 go_enter Tryz.func68,Tryz.ntmps68
 go_wp2
 have HZ:Hid (aG 60 0 (bl s) = []++aG (60 - 0) 0 ((bl s).drop 0)):=rfl
 go_loopw [4,5,6,7,8,9] (fun r en at' _ _ _ wr=>∃ (a:Nat) (A:Option Addr) (c:Nat) (A' : Option Addr) (c' : Nat) (m:List dA) (acc:List ((List UInt8 × List UInt8) × Nat)),m.length≤60∧a≤s.size∧r=F A m.length c∧en=F A' (m.length+1) c'∧at'=O U a∧(∃ q:ap w.heap.size w,wr=q.val) ∧
  Hid (dX acc m)∧Hid (cr acc=a)∧Hid (aG 60 0 (bl s)=acc++aG (60 - m.length) m.length ((bl s).drop a))∧Hid (wr.ownsRow w.heap.size 62 2 (F A m.length c) m.length (m.flatMap dA.enc))∧Hid (wr.ownsRow w.heap.size 3 1 (F A' (m.length+1) c') (m.length+1) (ug (ew 0 acc)))) (fun r _ _ _ _ _ _=>60 - lenOf r)
 case atStart=>exact ⟨0,none,0,some ⟨w.heap.size,0,none⟩,1,[],[],sP,Nat.zero_le _,rfl,rfl,rfl,⟨⟨_,b0⟩,rfl⟩,rfl,rfl,HZ,World.ownsRow_nil _ _ _ _,E0⟩
 case round =>
  obtain ⟨a,A,c,A',c',m,acc,hm,ha,rfl,rfl,rfl,⟨q,rfl⟩,HA,HL,HF,HR,HE⟩:=hrel
  have DONE:aG (60 - m.length) m.length ((bl s).drop a) = []→∀ W',Below q.val.heap.size q.val W'→jk s w (.returned (.tuple #[F A m.length c,F A' (m.length+1) c'])) W':=fun h W' hb=>by
   have h1:=HF.out
   rw [h,List.append_nil] at h1
   exact ⟨A,c,A',c',m,rfl,by rw [h1]; exact HA.out,ac HR.out hb,by rw [h1]; exact ac HE.out hb,(q.go nR hb).below⟩
  by_cases wQ:m.length < 60
  ·obtain ⟨n,hn⟩ : ∃ n,60 - m.length=n+1:=⟨59 - m.length,oM⟩
   obtain ⟨x,hx⟩ : ∃ x:ByteArray,x=s.extract a s.size:=⟨_,rfl⟩
   have y6:bl x=(bl s).drop a:=by rw [hx,bI,List.take_of_length_le (by rw [an]; exact Nat.le_refl _)]
   have HI:Hid (∀ W,Calls wH 122 #[wG (s.extract a s.size),.int .u8 10] W fun e w'=>e=.returned (O U (Lib.indexByte (bl x) 10))∧w'=W):=fun W=>by rw [← hx]; exact Tryz.strings_IndexByte x 10 W
   rw [hn] at DONE HF
   rw [← y6] at DONE HF
   have i1:(a:Int)≤(s.size:Int):=oM
   rcases n7 (bl x) 10 with ⟨h1,h2⟩ | ⟨h1,h2⟩
   ·rw [h2] at HI
    have HD:=jZ (DONE (dG h1) _ jB)
    clear DONE h1 h2 hx y6 hn
    go_wp2_with (go_at_call 122; refine (HI.out _).mono ?_; rintro e w' ⟨rfl,rfl⟩)
    go_ret2
    exact HD.out
   ·rw [h2] at HI
    have hp:=congrArg List.length (dd h1)
    have BJ:(bl x).length=s.size - a:=by rw [y6,List.length_drop,an]
    simp only [List.length_append,List.length_cons,List.length_drop,BJ] at hp
    have hparts:=dd h1
    obtain ⟨d,hd⟩ : ∃ d,d=(cP 10 (bl x)).length:=⟨_,rfl⟩
    rw [← hd] at HI hp
    have Ll:a+d+1≤s.size:=oM
    obtain ⟨y,hy⟩ : ∃ y:ByteArray,y=s.extract a (a+d):=⟨_,rfl⟩
    have Au:bl y=cP 10 (bl x):=by
     rw [hy,bI,List.drop_take,Nat.add_sub_cancel_left,← y6,hd,nT]
    have In:y.size≤3000000:=by rw [← an,Au,← hd]; omega
    have GH:Hid (∀ W,hQ W→Calls wH 123 #[O U (m.length:Int),wG (s.extract a (a+d))] W (n8 m.length y W)):=fun W hW=>by
     rw [← hy]; exact mq m.length y W oM In hW
    have EV:Hid (ed m.length (bl y)=none→∀ W',Below q.val.heap.size q.val W'→jk s w (.returned (.tuple #[F A m.length c,F A' (m.length+1) c'])) W'):=fun h=>DONE (dJ (by rw [← Au]; exact h))
    have Dd:Hid (∀ ra rb,ed m.length (bl y)=some (ra,rb)→aG 60 0 (bl s)=(acc++[((ra,rb),d+1)])++aG (60 - (m.length+1)) (m.length+1) ((bl s).drop (a+(d+1)))):=fun ra rb h=>by
     have e1:=cu (n:=n) h1 (by rw [← Au]; exact h)
     have e2:60 - (m.length+1)=n:=oM
     rw [HF.out,e1,e2,← hd,y6,List.drop_drop]
     simp
    have i2:(0:Int)≤(d:Int):=oM
    have i3:(a:Int)+(d:Int)≤(s.size:Int):=oM
    have i4:(a:Int)+((d:Int)+1)≤(s.size:Int):=oM
    have MH:=ht.at q
    clear DONE h1 h2 hx y6 hn hp BJ hparts hd hy Au
    go_wp2_with (go_at_call 122; refine (HI.out _).mono ?_; rintro e w' ⟨rfl,rfl⟩)
    refine (GH.out _ MH).mono ?_
    rintro e w3 ⟨ra,rb,ok,rfl,xT,wZ⟩
    cases ok
    ·have HD:=jZ (EV.out (by rcases xT with ⟨h,_⟩ | ⟨_,h⟩; cases h; exact h) _ (wZ.alloc wZ.size (.cells #[wG ra,wG rb] 62)))
     clear xT
     go_wp2_with fail
     go_ret2
     exact HD.out
    ·have hdec' : ed m.length (bl y)=some (bl ra,bl rb):=by rcases xT with ⟨_,h⟩ | ⟨h,_⟩; exact h; cases h
     have BR:=jZ (Dd.out _ _ hdec')
     clear xT hdec'
     have b4:=wZ.alloc wZ.size (.cells #[wG ra,wG rb] 62)
     have GI:=jZ (ac HR.out b4)
     have MI:=jZ (ac HE.out b4)
     have FK:=q.size
     have DV:w.heap.size≤(w3.alloc (.cells #[wG ra,wG rb] 62)).heap.size:=jT FK b4.size
     go_wp2_with (first
      | (at_builtin; refine cF (w0:=w3.alloc (.cells #[wG ra,wG rb] 62)) rfl (.tmp 38) (.tmp 40) 58 rfl 62 _ 2 32 Tryz.underlying58 tC rfl (by omega) (by omega) w.heap.size _ _ _ rfl GI #[wG ra,wG rb] 1 _ rfl (by first | rfl | simp | exact Array.size_push _) rfl (by simp [Value.oneCell']) (by omega) DV rfl rfl rfl rfl ?_; intro v5 w5 AJ yy hb5; have Lm:=Lib.hid (ff MI.out GI.out wT yy); have JH:w.heap.size≤w5.heap.size:=Nat.le_trans DV yy.size)
      | (at_builtin; refine cF (w0:=w5) rfl (.tmp 42) (.tmp 44) 100 rfl 3 (O U 0) 1 8 Tryz.underlying100 iO rfl (by omega) (by omega) w.heap.size _ _ _ rfl Lm #[O U ((a:Int)+((d:Int)+1))] 1 _ rfl (by first | rfl | simp | exact Array.size_push _) rfl (by simp [Value.oneCell']) (by omega) JH rfl rfl rfl rfl ?_; intro v6 w6 AM yS xn))
     have MJ:=jZ (ff AJ.out Lm.out wT.symm yS)
     obtain ⟨A5,c5,zW⟩:=az AJ.out
     subst zW
     obtain ⟨A6,c6,GJ⟩:=az AM.out
     subst GJ
     go_roundw
     case rel =>
      refine ⟨a+(d+1),A5,c5,A6,c6,m++[⟨ra,rb⟩],acc++[((bl ra,bl rb),d+1)],by simp; omega,oM,sP,sP,by go_num,⟨((q.go nR b4).go' hb5).go' xn,rfl⟩, ?_, ?_, ?_, ?_, ?_⟩
      ·have h1:=HA.out; unfold dX at h1; unfold dX Hid; simp [h1]
      ·have h1:=HL.out; unfold Hid; rw [← h1]; simp [cr]
      ·have h1:=BR.out; rw [Hid]; simpa using h1
      ·have h1:=MJ.out; rw [Hid]; simpa [dA.enc] using h1
      ·have h1:=AM.out; rw [Hid,nX,HL.out]; simpa [ug] using h1
     case measure=>simp [lenOf]; omega
  ·have HD:Hid (jk s w (.returned (.tuple #[F A m.length c,F A' (m.length+1) c'])) q.val):=DONE (by rw [show 60 - m.length=0 by omega]; rfl) _ jB
   clear DONE
   go_wp2
   go_ret2
   exact HD.out
end Go.Proofs.YtoeoimhemojdeaaGreatDoor
