/- Lemmas. -/
import Derived.Test.YtoeoimhemojdeaaGreatDoorProg
import Derived.ProofKit
import Derived.ChangeOld
import Derived.ShutString
import Derived.OpenShut
import Derived.Deep.Slices
import Derived.Deep.Fields
import Derived.Laws.IdiomStrings
import Derived.Test.YtoeoimhemojdeaaGreatDoorFr08

set_option linter.unusedVariables false
set_option linter.unusedSimpArgs false
set_option maxHeartbeats 8000000
open Go.Value renaming int → O, slice → F, string → xh
open Go.IntKind renaming i64 → U
open Go.Proofs.Tryz renaming prog → xi

namespace Go.Proofs.YtoeoimhemojdeaaGreatDoor
open Go.RowKit
theorem rt {s:ByteArray} {k h:Nat} (hk:k < s.size):ii h ((bl s).drop k)=ii ((41 * h+s[k].toNat+1) % 999979) ((bl s).drop (k+1)):=by rw [kG hk]; rfl
theorem ux (s:ByteArray) (w:World) (hs:s.size≤1000000000) :
  Calls xi 179 #[xh s] w fun e w'=>e=.returned (O U (jP (bl s)))∧w=w':=by
 have HF:Hid (ii 7 ((bl s).drop 0)=jP (bl s)):=rfl
 go_enter Tryz.func179,Tryz.ntmps179
 go_wp2
 go_loop [3,4] (fun n i=>∃ k h:Nat,k≤s.size∧i=O U k∧n=O U h∧h < 999979∧Hid (ii h ((bl s).drop k)=jP (bl s))) (fun _ i=>s.size - (intOf i).toNat)
 case atStart=>exact ⟨0,7,Nat.zero_le _,rfl,rfl,oM,HF⟩
 case round =>
  obtain ⟨k,h,hk,rfl,rfl,hh,HR⟩:=hrel
  by_cases xu:k < s.size
  ·have HD:=jZ (rt (h:=h) xu)
   have u1:(s[k].toNat:Int)≤255:=by have:=UInt8.toNat_lt s[k]; omega
   have HM:Hid ((41 * (h:Int)+(s[k].toNat:Int)+1) % 999979=(((41 * h+s[k].toNat+1) % 999979:Nat):Int)):=by unfold Hid; omega
   have HB:Hid ((41 * h+s[k].toNat+1) % 999979 < 999979):=Nat.mod_lt _ oM
   have e1:(41 * (h:Int)+(s[k].toNat:Int)+1).tmod 999979=(41 * (h:Int)+(s[k].toNat:Int)+1) % 999979:=Int.tmod_eq_emod_of_nonneg oM
   go_wp2
   go_round
   case rel=>exact ⟨k+1,(41 * h+s[k].toNat+1) % 999979,oM,by go_num,congrArg _ HM.out,HB.out,by have h1:=HR.out; rw [HD.out] at h1; exact h1⟩
   case measure=>simp [intOf]; omega
  ·have HK:Hid (h=jP (bl s)):=by
    have h1:=HR.out
    rw [List.drop_eq_nil_of_le (by rw [ao]; omega)] at h1; exact h1
   go_wp2
   go_ret
   exact ⟨by rw [← HK.out]; rfl,rfl⟩
theorem qr (s:ByteArray) (w:World) (hs:s.size≤1000000000) :
  Calls xi 187 #[xh s] w fun e w'=>e=.returned (.tuple #[O U (if s.size≤4000 then (jP (bl s):Int) else 0),.bool (decide (s.size≤4000))])∧w=w':=by
 by_cases h4:s.size≤4000
 ·have d4:decide (4000 < (s.size:Int))=false:=jE oM
  have HF:Hid (ii 7 ((bl s).drop 0)=jP (bl s)):=rfl
  rw [if_pos h4,jD h4]
  have H4:=jZ h4
  go_enter Tryz.func187,Tryz.ntmps187
  go_wp2
  go_loop [4,5,11] (fun n _ i=>∃ k h:Nat,k≤s.size∧i=O U k∧n=O U h∧h < 999979∧Hid (ii h ((bl s).drop k)=jP (bl s))) (fun _ _ i=>s.size - (intOf i).toNat)
  case atStart=>exact ⟨0,7,Nat.zero_le _,rfl,rfl,oM,HF⟩
  case round =>
   obtain ⟨k,h,hk,rfl,rfl,hh,HR⟩:=hrel
   by_cases xu:k < s.size
   ·have HD:=jZ (rt (h:=h) xu)
    have u1:(s[k].toNat:Int)≤255:=by have:=UInt8.toNat_lt s[k]; omega
    have HM:Hid ((41 * (h:Int)+(s[k].toNat:Int)+1) % 999979=(((41 * h+s[k].toNat+1) % 999979:Nat):Int)):=by unfold Hid; omega
    have HB:Hid ((41 * h+s[k].toNat+1) % 999979 < 999979):=Nat.mod_lt _ oM
    have e1:(41 * (h:Int)+(s[k].toNat:Int)+1).tmod 999979=(41 * (h:Int)+(s[k].toNat:Int)+1) % 999979:=Int.tmod_eq_emod_of_nonneg oM
    go_wp2
    go_round
    case rel=>exact ⟨k+1,(41 * h+s[k].toNat+1) % 999979,oM,by go_num,congrArg _ HM.out,HB.out,by have h1:=HR.out; rw [HD.out] at h1; exact h1⟩
    case measure=>simp [intOf]; omega
   ·have HK:Hid (h=jP (bl s)):=by
     have h1:=HR.out
     rw [List.drop_eq_nil_of_le (by rw [ao]; omega)] at h1; exact h1
    go_wp2
    go_ret2
    exact ⟨by rw [← HK.out]; rfl,rfl⟩
 ·have d4:decide (4000 < (s.size:Int))=true:=jD oM
  rw [if_neg h4,jE h4]
  clear h4
  go_enter Tryz.func187,Tryz.ntmps187
  go_wp2
  go_ret2
  exact ⟨rfl,rfl⟩
theorem sC {s:ByteArray} {l:List UInt8} (h:bl s=l):Ending.returned (xh s)=.returned (xh ⟨l.toArray⟩):=by rw [dU h]
theorem sD (s:ByteArray) (w:World) (hs:s.size≤1000000000) :
  Calls xi 144 #[xh s] w fun e w'=>e=.returned (xh ⟨(eE (bl s)).toArray⟩)∧Below w.heap.size w w':=by
 have hl:=ql (bl s)
 have HS:=jZ (fun W=>ux s W hs)
 have HN:=jZ (fun W=>cy (jP (bl s):Int) W oM oM)
 have xY:(⟨(Lib.itoa (jP (bl s):Int)).toArray⟩ : ByteArray).size≤100:=cU oM oM
 obtain ⟨t,ht⟩ : ∃ t:ByteArray,t=⟨(Lib.itoa (jP (bl s):Int)).toArray⟩:=⟨_,rfl⟩
 rw [← ht] at HN xY
 have HT:Hid (bl t=Lib.itoa (jP (bl s):Int)):=by rw [ht,Hid,bO]
 clear ht
 go_enter Tryz.func144,Tryz.ntmps144
 go_wp2_with (first | (go_at_call 179; refine (HS.out _).mono ?_; rintro e w' ⟨rfl,rfl⟩) | (go_at_call 71; refine (HN.out _).mono ?_; rintro e w1 ⟨rfl,xp⟩))
 go_ret
 exact ⟨sC (by rw [dw,dw,HT.out]; unfold eE; simp [mu]),xp⟩
theorem m8 (k:Nat) (e:dj) (w:World) (hk:k≤1000) (h1:e.c.size≤1000000) (h2:e.r.size≤1000000) :
  Calls xi 90 #[O U k,e.val] w fun en w'=>en=.returned (xh ⟨(bT k (bl e.c) (bl e.r)).toArray⟩)∧Below w.heap.size w w':=by
 have b1:=bZ w (.cells #[xh e.c,xh e.r] 62)
 have L1:=ai.new w 62 #[xh e.c,xh e.r]
 obtain ⟨t,ht⟩ : ∃ t:ByteArray,t=⟨(Lib.itoa (k:Int)).toArray⟩:=⟨_,rfl⟩
 have DT:t.size≤100:=by rw [ht]; exact cU oM oM
 have HN:Hid (∀ W,Calls xi 71 #[O U k] W fun e w'=>e=.returned (xh t)∧Below W.heap.size W w'):=fun W=>by rw [ht]; exact cy (k:Int) W oM oM
 have HT:Hid (bl t=Lib.itoa (k:Int)):=by rw [ht,Hid,bO]
 clear ht
 obtain ⟨x,hx⟩ : ∃ x:ByteArray,x=t++⟨#[32]⟩++e.c++⟨#[64]⟩++e.r:=⟨_,rfl⟩
 have Ay:x.size≤3000000:=by rw [hx]; simp only [bg]; (have e1:(⟨#[32]⟩ : ByteArray).size=1:=rfl); (have e2:(⟨#[64]⟩ : ByteArray).size=1:=rfl); omega
 obtain ⟨z,hz⟩ : ∃ z:ByteArray,z=⟨(eE (bl x)).toArray⟩:=⟨_,rfl⟩
 have yM:z.size≤4000000:=by rw [← ao,hz,bO]; have:=lR (bl x); rw [ao] at this; omega
 have Kc:Hid (∀ W,Calls xi 144 #[xh (t++⟨#[32]⟩++e.c++⟨#[64]⟩++e.r)] W fun e w'=>e=.returned (xh z)∧Below W.heap.size W w'):=fun W=>by rw [hz,← hx]; exact sD x W oM
 have HF:Hid (bl (z++⟨#[10]⟩)=bT k (bl e.c) (bl e.r)):=by
  rw [Hid,dw,hz,bO,hx]
  unfold bT eS
  simp [dw,mu,HT.out]
 clear hz hx
 have z1:(⟨#[32]⟩ : ByteArray).size=1:=rfl
 have z2:(⟨#[64]⟩ : ByteArray).size=1:=rfl
 have z3:(⟨#[10]⟩ : ByteArray).size=1:=rfl
 go_enter Tryz.func90,Tryz.ntmps90
 go_wp2_with fail
 generalize w.alloc (.cells #[xh e.c,xh e.r] 62)=W at b1 L1 ⊢
 generalize hg:w.heap.size=g at L1 ⊢
 have c0:∀ p:aq W.heap.size W,p.val.cell? ⟨g,0,none⟩=some (xh e.c):=fun p=>(p.cell L1.lt).trans (L1.cell 0)
 have c1:∀ p:aq W.heap.size W,p.val.cell? ⟨g,1,none⟩=some (xh e.r):=fun p=>(p.cell L1.lt).trans (L1.cell 1)
 clear L1
 refine aw kZ kZ ?_
 repeat (any_goals (first | go_big_quiet_step ((first | (go_at_call 71; refine aP nR (HN.out _)) | (go_at_call 144; refine aP nR (Kc.out _)))) | (refine wpQuiet_step (fun K hK=>?_); go_simp; split <;> (refine hK _ ?_; clear hK K))))
 all_goals (refine wpQuiet_nil ?_; rintro _ ⟨q1,rfl⟩)
 go_wp2
 go_ret
 exact ⟨sC HF.out,by rw [← hg] at *; exact av b1 q1.below⟩
def gz (s:ByteArray):Bool:=decide (s.size≤4000) && !gq (bl s) 35 && decide ((eE (bl s)).length≤4000)
def jf (s:ByteArray):ByteArray:=if gz s then ⟨(eE (bl s)).toArray⟩ else ⟨#[]⟩
theorem iC (s:ByteArray) (w:World) (hs:s.size≤1000000000) (ht:jj w) :
  Calls xi 158 #[xh s] w fun e w'=>e=.returned (.tuple #[xh (jf s),.bool (gz s)])∧Below w.heap.size w w':=by
 have HC:=jZ (fun W=>qr s W hs)
 by_cases h4:s.size≤4000
 ·rw [if_pos h4,jD h4] at HC
  have Hd:=jZ (lf s 35)
  cases hh:gq (bl s) 35
  ·rw [hh] at Hd
   have hl:=ql (bl s)
   obtain ⟨t,zL⟩ : ∃ t:ByteArray,t=⟨(Lib.itoa (jP (bl s):Int)).toArray⟩:=⟨_,rfl⟩
   have DT:t.size≤100:=by rw [zL]; exact cU oM oM
   have HN:Hid (∀ W,jj W→Calls xi 69 #[O U (jP (bl s):Int)] W fun e w'=>e=.returned (xh t)∧Below W.heap.size W w'):=fun W hW=>by rw [zL]; exact dE _ W oM oM hW
   have HT:Hid (bl t=Lib.itoa (jP (bl s):Int)):=by rw [zL,Hid,bO]
   clear zL
   have z1:(⟨#[35]⟩ : ByteArray).size=1:=rfl
   have He:Hid (bl (s++⟨#[35]⟩++t)=eE (bl s)):=by
    rw [Hid,dw,dw,HT.out]; unfold eE; simp [mu]
   have BH:Hid ((s++⟨#[35]⟩++t).size=(eE (bl s)).length):=by rw [Hid,← ao,He.out]
   have HZ:Hid ((s++⟨#[35]⟩++t).size=s.size+1+t.size):=by rw [Hid,bg,bg]; rfl
   have HA:Hid (gz s=decide ((eE (bl s)).length≤4000)):=by unfold gz Hid; rw [hh,jD h4]; rfl
   clear hh h4
   by_cases h5:s.size+1+t.size≤4000
   ·have BX:Hid (gz s=true):=by rw [Hid,HA.out,← BH.out,HZ.out]; exact jD h5
    have Fq:Hid (jf s=s++⟨#[35]⟩++t):=by unfold jf Hid; rw [BX.out,if_pos rfl]; exact (dU He.out).symm
    have d5:decide ((4000:Int) < (s.size:Int)+1+(t.size:Int))=false:=jE oM
    go_enter Tryz.func158,Tryz.ntmps158
    go_wp2_with (first | (go_at_call 187; refine (HC.out _).mono ?_; rintro e w' ⟨rfl,rfl⟩) | (go_at_call 95; refine (Hd.out _).mono ?_; rintro e w' ⟨rfl,rfl⟩) | (go_at_call 69; refine (HN.out _ (by assumption)).mono ?_; rintro e w1 ⟨rfl,xp⟩))
    go_ret2
    exact ⟨by rw [BX.out,Fq.out]; rfl,xp⟩
   ·have BX:Hid (gz s=false):=by rw [Hid,HA.out,← BH.out,HZ.out]; exact jE h5
    have Fq:Hid (jf s=⟨#[]⟩):=by unfold jf Hid; rw [BX.out]; rfl
    have d5:decide ((4000:Int) < (s.size:Int)+1+(t.size:Int))=true:=jD oM
    go_enter Tryz.func158,Tryz.ntmps158
    go_wp2_with (first | (go_at_call 187; refine (HC.out _).mono ?_; rintro e w' ⟨rfl,rfl⟩) | (go_at_call 95; refine (Hd.out _).mono ?_; rintro e w' ⟨rfl,rfl⟩) | (go_at_call 69; refine (HN.out _ (by assumption)).mono ?_; rintro e w1 ⟨rfl,xp⟩))
    go_ret2
    exact ⟨by rw [BX.out,Fq.out]; rfl,xp⟩
  ·rw [hh] at Hd
   have BX:Hid (gz s=false):=by unfold gz Hid; rw [hh]; simp
   have Fq:Hid (jf s=⟨#[]⟩):=by unfold jf Hid; rw [BX.out]; rfl
   clear hh h4
   go_enter Tryz.func158,Tryz.ntmps158
   go_wp2_with (first | (go_at_call 187; refine (HC.out _).mono ?_; rintro e w' ⟨rfl,rfl⟩) | (go_at_call 95; refine (Hd.out _).mono ?_; rintro e w' ⟨rfl,rfl⟩))
   go_ret2
   exact ⟨by rw [BX.out,Fq.out]; rfl,Below.refl _ _⟩
 ·rw [if_neg h4,jE h4] at HC
  have BX:Hid (gz s=false):=by unfold gz Hid; rw [jE h4]; rfl
  have Fq:Hid (jf s=⟨#[]⟩):=by unfold jf Hid; rw [BX.out]; rfl
  clear h4
  go_enter Tryz.func158,Tryz.ntmps158
  go_wp2_with (first | (go_at_call 187; refine (HC.out _).mono ?_; rintro e w' ⟨rfl,rfl⟩))
  go_ret2
  exact ⟨by rw [BX.out,Fq.out]; rfl,Below.refl _ _⟩
theorem ll {l:List UInt8} {b:UInt8} : gq l b=false ↔ b ∉ l:=by unfold gq; simp
theorem pD {l:List UInt8} {b:UInt8} : gq l b=true ↔ b ∈ l:=by unfold gq; simp
theorem js {s:ByteArray} : gz s=true ↔ s.size≤4000∧(35:UInt8) ∉ bl s∧(eE (bl s)).length≤4000:=by
 unfold gz; simp [Bool.and_eq_true,ll,and_assoc]
theorem mv (k:Nat) (e:dj) (w:World) (hk:k≤1000) (xq:e.ok=true) (ht:jj w) :
  Calls xi 100 #[O U k,e.val] w fun en w'=>en=.returned (xh ⟨(bT k (bl e.c) (bl e.r)).toArray⟩)∧Below w.heap.size w w':=by
 have b1:=bZ w (.cells #[xh e.c,xh e.r] 62)
 have L1:=ai.new w 62 #[xh e.c,xh e.r]
 have yG:=ht.then b1
 obtain ⟨_,h1,_,_,_,h2⟩:=dd.1 xq
 rw [ao] at h1 h2
 obtain ⟨t,zL⟩ : ∃ t:ByteArray,t=⟨(Lib.itoa (k:Int)).toArray⟩:=⟨_,rfl⟩
 have DT:t.size≤100:=by rw [zL]; exact cU oM oM
 have HN:Hid (∀ W,jj W→Calls xi 69 #[O U k] W fun e w'=>e=.returned (xh t)∧Below W.heap.size W w'):=fun W hW=>by rw [zL]; exact dE (k:Int) W oM oM hW
 have HT:Hid (bl t=Lib.itoa (k:Int)):=by rw [zL,Hid,bO]
 clear zL
 obtain ⟨x,hx⟩ : ∃ x:ByteArray,x=t++⟨#[32]⟩++e.c++⟨#[64]⟩++e.r:=⟨_,rfl⟩
 have Em:bl x=eS k (bl e.c) (bl e.r):=by rw [hx]; unfold eS; simp [dw,mu,HT.out]
 have Hf:gz x=true:=by
  rw [js,Em]
  have h3:=nH (k:=k) xq oM
  have h4:=lR (eS k (bl e.c) (bl e.r))
  exact ⟨by rw [← ao,Em]; omega,gp xq,oM⟩
 obtain ⟨z,hz⟩ : ∃ z:ByteArray,z=⟨(eE (bl x)).toArray⟩:=⟨_,rfl⟩
 have yM:z.size≤4000:=by rw [← ao,hz,bO]; exact (js.1 Hf).2.2
 have Ay:x.size≤4000:=(js.1 Hf).1
 have Kc:Hid (∀ W,jj W→Calls xi 158 #[xh (t++⟨#[32]⟩++e.c++⟨#[64]⟩++e.r)] W fun e w'=>e=.returned (.tuple #[xh z,.bool true])∧Below W.heap.size W w'):=fun W hW=>by
  have:=iC x W oM hW
  rw [show jf x=z by unfold jf; rw [Hf,if_pos rfl,hz],Hf] at this
  rw [← hx]; exact this
 have HF:Hid (bl (z++⟨#[10]⟩)=bT k (bl e.c) (bl e.r)):=by
  rw [Hid,dw,hz,bO,Em]
  unfold bT; simp [mu]
 clear hz hx Em Hf xq
 have z1:(⟨#[32]⟩ : ByteArray).size=1:=rfl
 have z2:(⟨#[64]⟩ : ByteArray).size=1:=rfl
 have z3:(⟨#[10]⟩ : ByteArray).size=1:=rfl
 go_enter Tryz.func100,Tryz.ntmps100
 go_wp2_with fail
 generalize w.alloc (.cells #[xh e.c,xh e.r] 62)=W at b1 L1 yG ⊢
 generalize hg:w.heap.size=g at L1 ⊢
 have c0:∀ p:aq W.heap.size W,p.val.cell? ⟨g,0,none⟩=some (xh e.c):=fun p=>(p.cell L1.lt).trans (L1.cell 0)
 have c1:∀ p:aq W.heap.size W,p.val.cell? ⟨g,1,none⟩=some (xh e.r):=fun p=>(p.cell L1.lt).trans (L1.cell 1)
 clear L1
 refine aw kZ kZ ?_
 repeat (any_goals (first | go_big_quiet_step ((first | (go_at_call 69; refine aP nR (HN.out _ (yG.at _))) | (go_at_call 158; refine aP nR (Kc.out _ (yG.at _))))) | (refine wpQuiet_step (fun K hK=>?_); go_simp; split <;> (refine hK _ ?_; clear hK K))))
 all_goals (refine wpQuiet_nil ?_; rintro _ ⟨q1,rfl⟩)
 go_wp2
 go_ret
 exact ⟨sC HF.out,by rw [← hg] at *; exact av b1 q1.below⟩
open Classical in
noncomputable def lS (s:List UInt8):Option (List UInt8):=if h:∃ t,qF t s then some h.choose else none
theorem pE {t s:List UInt8} (h:qF t s):lS s=some t:=by
 have Ad:∃ t,qF t s:=⟨t,h⟩
 unfold lS
 rw [dif_pos Ad]
 exact congrArg some (Ad.choose_spec.inj h)
theorem mw {s:List UInt8} (h:∀ t,¬ qF t s):lS s=none:=by unfold lS; rw [dif_neg (fun ⟨t,ht⟩=>h t ht)]
theorem vB {t s:List UInt8} (h:lS s=some t):qF t s:=by
 by_cases Ad:∃ t,qF t s
 ·unfold lS at h
  rw [dif_pos Ad] at h
  have:=Ad.choose_spec
  rw [Option.some.inj h] at this
  exact this
 ·unfold lS at h
  rw [dif_neg Ad] at h; cases h
theorem ru {t s:List UInt8} (h:qF t s):Lib.lastIndex s [35]=t.length:=by rw [← h.2.1]; exact uv t
theorem vC {t s:List UInt8} (h:qF t s):s.take t.length=t:=by rw [← h.2.1]; unfold eE; exact List.take_left' rfl
def wl:Option (List UInt8)→ByteArray
 | some t=>⟨t.toArray⟩
 | none=>⟨#[]⟩
theorem lT (a b:ByteArray):(a.toList == b.toList)=decide (bl a=bl b):=by
 rw [wY,wY,Bool.eq_iff_iff]; simp
theorem sE (s:ByteArray) (w:World) (hs:s.size≤1000000000) (ht:jj w) :
  Calls xi 169 #[xh s] w fun e w'=>e=.returned (.tuple #[xh (wl (lS (bl s))),.bool (lS (bl s)).isSome])∧Below w.heap.size w w':=by
 have HL:Hid (∀ W,Calls xi 194 #[xh s,xh ⟨#[35]⟩] W fun e w'=>e=.returned (O U (Lib.lastIndex (bl s) [35]))∧w'=W):=fun W=>Tryz.strings_LastIndex s ⟨#[35]⟩ oM W
 rcases rj (bl s) 35 with h1 | ⟨i,h1,h2,h3⟩
 ·have HV:Hid (lS (bl s)=none):=mw fun t hv=>by have:=ru hv; omega
  rw [h1] at HL
  clear h1
  go_enter Tryz.func169,Tryz.ntmps169
  go_wp2_with (go_at_call 194; refine (HL.out _).mono ?_; rintro e w' ⟨rfl,rfl⟩)
  go_ret2
  exact ⟨by rw [HV.out]; rfl,Below.refl _ _⟩
 ·rw [h1] at HL
  have hi:i < s.size:=h2
  obtain ⟨t,zL⟩ : ∃ t:ByteArray,t=s.extract 0 i:=⟨_,rfl⟩
  have Aq:bl t=(bl s).take i:=by rw [zL,bH]; simp
  have HC:Hid (∀ W,jj W→Calls xi 158 #[xh (s.extract 0 i)] W fun e w'=>e=.returned (.tuple #[xh (jf t),.bool (gz t)])∧Below W.heap.size W w'):=fun W hW=>by
   rw [← zL]; exact iC t W (by rw [← ao,Aq,List.length_take,ao]; omega) hW
  have Ds:Hid (∀ t',qF t' (bl s)→t'=bl t∧gz t=true∧jf t=s):=fun t' hv=>by
   have e1:=ru hv
   have e2:t'.length=i:=oM
   have e3:=vC hv
   rw [e2,← Aq] at e3
   subst e3
   have e4:gz t=true:=js.2 ⟨by rw [← ao]; exact hv.2.2.1,hv.1,by rw [hv.2.1]; exact hv.2.2.2⟩
   refine ⟨rfl,e4, ?_⟩
   unfold jf
   rw [e4,if_pos rfl,hv.2.1]
   exact (dU rfl).symm
  have Eo:Hid (gz t=true→bl (jf t)=bl s→qF (bl t) (bl s)):=fun h5 h6=>by
   obtain ⟨a1,a2,a3⟩:=js.1 h5
   have a4:bl (jf t)=eE (bl t):=by unfold jf; rw [h5,if_pos rfl,bO]
   exact ⟨a2,by rw [← a4]; exact h6,by rw [ao]; exact a1,by rw [← h6,a4]; exact a3⟩
  clear h1 h2 h3
  cases xq:gz t
  ·have HV:Hid (lS (bl s)=none):=mw fun t' hv=>by have:=(Ds.out t' hv).2.1; rw [xq] at this; cases this
   rw [xq] at HC
   clear xq Ds Eo zL Aq
   go_enter Tryz.func169,Tryz.ntmps169
   go_wp2_with (first | (go_at_call 194; refine (HL.out _).mono ?_; rintro e w' ⟨rfl,rfl⟩) | (go_at_call 158; refine (HC.out _ (by assumption)).mono ?_; rintro e w1 ⟨rfl,xp⟩))
   go_ret2
   exact ⟨by rw [HV.out]; rfl,xp⟩
  ·rw [xq] at HC
   have xw:=lT (jf t) s
   by_cases zW:bl (jf t)=bl s
   ·have HV:Hid (lS (bl s)=some (bl t)):=pE (Eo.out xq zW)
    have HT:Hid (wl (some (bl t))=s.extract 0 i):=by unfold wl Hid; rw [← zL]; exact (dU rfl).symm
    rw [jD zW] at xw
    clear xq Ds Eo zL Aq zW
    generalize jf t=at' at HC xw
    go_enter Tryz.func169,Tryz.ntmps169
    go_wp2_with (first | (go_at_call 194; refine (HL.out _).mono ?_; rintro e w' ⟨rfl,rfl⟩) | (go_at_call 158; refine (HC.out _ (by assumption)).mono ?_; rintro e w1 ⟨rfl,xp⟩))
    go_ret2
    exact ⟨by rw [HV.out,HT.out]; rfl,xp⟩
   ·have HV:Hid (lS (bl s)=none):=mw fun t' hv=>by have:=(Ds.out t' hv).2.2; exact zW (by rw [this])
    rw [jE zW] at xw
    clear xq Ds Eo zL Aq zW
    generalize jf t=at' at HC xw
    go_enter Tryz.func169,Tryz.ntmps169
    go_wp2_with (first | (go_at_call 194; refine (HL.out _).mono ?_; rintro e w' ⟨rfl,rfl⟩) | (go_at_call 158; refine (HC.out _ (by assumption)).mono ?_; rintro e w1 ⟨rfl,xp⟩))
    go_ret2
    exact ⟨by rw [HV.out]; rfl,xp⟩
theorem ov (l:List UInt8) (b:UInt8):(b ∉ l∧Lib.indexByte l b = -1) ∨ (b ∈ l∧Lib.indexByte l b=(cJ b l).length):=by
 induction l with
 | nil=>exact .inl ⟨sP,rfl⟩
 | cons x l ih =>
  unfold Lib.indexByte cJ
  by_cases h:x=b
  ·subst h; exact .inr ⟨sP,sP⟩
  ·have h' : (x == b)=false:=by simp [h]
   rw [if_neg (by simp [h]),if_neg h]
   rcases ih with ⟨h1,h2⟩ | ⟨h1,h2⟩
   ·exact .inl ⟨by simp only [List.mem_cons,not_or]; exact ⟨Ne.symm h,h1⟩,by rw [h2]; rfl⟩
   ·refine .inr ⟨by simp [h1], ?_⟩
    rw [h2,if_neg sP]; simp
def aV (s:ByteArray) (b:UInt8):ByteArray:=⟨(cJ b (bl s)).toArray⟩
def bh (s:ByteArray) (b:UInt8):ByteArray:=⟨((bl s).drop ((cJ b (bl s)).length+1)).toArray⟩
theorem sF (s:ByteArray) (b:UInt8) (w:World) (hs:s.size≤1000000000) :
  Calls xi 196 #[xh s,xh ⟨#[b]⟩] w fun e w'=>e=.returned (.tuple #[xh (aV s b),xh (bh s b),.bool (gq (bl s) b)])∧Below w.heap.size w w':=by
 have HI:=jZ (fun W=>Tryz.stringslite_Index_one s b W)
 have hb:=lP b (bl s)
 rw [ao] at hb
 rcases ov (bl s) b with ⟨h1,h2⟩ | ⟨h1,h2⟩
 ·rw [show s.data.toList=bl s from rfl,h2] at HI
  have HL:Hid (aV s b=s):=by unfold aV Hid; rw [lO h1]; exact (dU rfl).symm
  have HR:Hid (bh s b=⟨#[]⟩):=by unfold bh Hid; rw [lO h1,List.drop_eq_nil_of_le oM]
  have HF:Hid (gq (bl s) b=false):=ll.2 h1
  clear h1 h2
  go_enter Tryz.func196,Tryz.ntmps196
  go_wp2_with (go_at_call 180; refine (HI.out _).mono ?_; rintro e w' ⟨rfl,rfl⟩)
  go_ret3
  exact ⟨by rw [HL.out,HR.out,HF.out]; rfl,Below.refl _ _⟩
 ·rw [show s.data.toList=bl s from rfl,h2] at HI
  have hp:=congrArg List.length (db h1)
  rw [ao] at hp
  simp only [List.length_append,List.length_cons,List.length_drop,ao] at hp
  have HF:Hid (gq (bl s) b=true):=pD.2 h1
  obtain ⟨n,hn⟩ : ∃ n,n=(cJ b (bl s)).length:=⟨_,rfl⟩
  have HL:Hid (aV s b=s.extract 0 n):=by
   unfold aV Hid; refine (dU ?_).symm
   rw [bH,hn,oe]; simp
  have HR:Hid (bh s b=s.extract (n+1) s.size):=by
   unfold bh Hid; refine (dU ?_).symm
   rw [bH,hn,List.take_of_length_le (by rw [ao]; omega)]
  rw [← hn] at HI hp hb
  have z1:(⟨#[b]⟩ : ByteArray).size=1:=rfl
  have zJ:n+1≤s.size:=oM
  have i0:(0:Int)≤(n:Int):=oM
  have i1:(n:Int)≤(s.size:Int):=oM
  have i2:(n:Int)+1≤(s.size:Int):=oM
  have i3:IntKind.i64.wrap ((n:Int)+1)=(n:Int)+1:=IntWalk.i64_in _ oM
  clear hn hp h1 h2
  go_enter Tryz.func196,Tryz.ntmps196
  go_wp2_with (go_at_call 180; refine (HI.out _).mono ?_; rintro e w' ⟨rfl,rfl⟩)
  refine aw kZ kZ ?_
  repeat (any_goals (first | go_big_quiet_step ((fail)) | (refine wpQuiet_step (fun K hK=>?_); go_simp; split <;> (refine hK _ ?_; clear hK K))))
  all_goals (refine wpQuiet_nil ?_; rintro _ ⟨q1,rfl⟩)
  go_wp2
  go_ret3
  exact ⟨by rw [HL.out,HR.out,HF.out]; rfl,q1.below⟩
theorem qt (s:ByteArray) (b:UInt8) (w:World) (hs:s.size≤1000000000) :
  Calls xi 171 #[xh s,xh ⟨#[b]⟩] w fun e w'=>e=.returned (.tuple #[xh (aV s b),xh (bh s b),.bool (gq (bl s) b)])∧Below w.heap.size w w':=by
 have HC:=jZ (fun W=>sF s b W hs)
 go_enter Tryz.func171,Tryz.ntmps171
 go_wp2_with (go_at_call 196; refine (HC.out _).mono ?_; rintro e w1 ⟨rfl,xp⟩)
 go_ret3
 exact ⟨rfl,xp⟩
def wS (k:Nat) (s:ByteArray) (a b:ByteArray) (ok:Bool):Prop:=(ok=true∧dZ k (bl s)=some (bl a,bl b)) ∨ (ok=false∧dZ k (bl s)=none)
def ow (k:Nat) (s:ByteArray) (w:World) (e:Ending) (w' : World):Prop:=∃ a b ok,e=.returned (.tuple #[.agg #[xh a,xh b],.bool ok])∧wS k s a b ok∧Below w.heap.size w w'
theorem rv {p t:List UInt8} (h:p <+: t):t=p++t.drop p.length:=by
 obtain ⟨u,rfl⟩:=h; simp
set_option maxRecDepth 100000 in
theorem mx (k:Nat) (s:ByteArray) (w:World) (hk:k≤1000) (hs:s.size≤3000000) (ht:jj w) :
  Calls xi 123 #[O U k,xh s] w (ow k s w):=by
 have b1:=bZ w (.cells #[xh ⟨#[]⟩,xh ⟨#[]⟩] 62)
 have L1:=ai.new w 62 #[xh ⟨#[]⟩,xh ⟨#[]⟩]
 have yG:=ht.then b1
 have Eh:k≤9223372036854775807:=oM
 obtain ⟨t,zL⟩ : ∃ t:ByteArray,t=⟨(Lib.itoa (k:Int)).toArray⟩:=⟨_,rfl⟩
 have DT:t.size≤100:=by rw [zL]; exact cU oM oM
 have HN:Hid (∀ W,jj W→Calls xi 69 #[O U k] W fun e w'=>e=.returned (xh t)∧Below W.heap.size W w'):=fun W hW=>by rw [zL]; exact dE (k:Int) W oM oM hW
 have HT:Hid (bl t=Lib.itoa (k:Int)):=by rw [zL,Hid,bO]
 have BY:Hid (bl (t++⟨#[32]⟩)=Lib.itoa (k:Int)++[32]):=by rw [Hid,dw,HT.out]; rfl
 clear zL
 have z1:(⟨#[32]⟩ : ByteArray).size=1:=rfl
 have HV:=jZ (fun W hW=>sE s W oM hW)
 cases hv:lS (bl s) with
 | none =>
  rw [hv] at HV
  have HD:Hid (dZ k (bl s)=none):=ss Eh fun u hu=>by rw [pE hu] at hv; cases hv
  have Fr:Hid (∀ W,Calls xi 170 #[xh ⟨#[]⟩,xh (t++⟨#[32]⟩)] W fun e w'=>e=.returned (.tuple #[xh ⟨#[]⟩,.bool false])∧w'=W):=fun W=>by
   have h1:=Tryz.strings_CutPrefix ⟨#[]⟩ (t++⟨#[32]⟩) W
   have h2:Lib.hasPrefix (⟨#[]⟩ : ByteArray).data.toList (t++⟨#[32]⟩ : ByteArray).data.toList=false:=by
    unfold Lib.hasPrefix
    have:(t++⟨#[32]⟩ : ByteArray).data.toList=Lib.itoa (k:Int)++[32]:=BY.out
    rw [this]
    cases Lib.itoa (k:Int) <;> rfl
   unfold Lib.trimPrefix at h1
   rw [h2] at h1
   exact h1
  have BZ:=jZ (fun W=>qt ⟨#[]⟩ 64 W dD)
  have e1:aV ⟨#[]⟩ 64=⟨#[]⟩:=rfl
  have e2:bh ⟨#[]⟩ 64=⟨#[]⟩:=rfl
  have e3:gq (bl ⟨#[]⟩) 64=false:=rfl
  rw [e1,e2,e3] at BZ
  clear e1 e2 e3 hv
  go_enter Tryz.func123,Tryz.ntmps123
  go_wp2_with fail
  generalize w.alloc (.cells #[xh ⟨#[]⟩,xh ⟨#[]⟩] 62)=W at b1 L1 yG ⊢
  generalize hg:w.heap.size=g at L1 ⊢
  refine (HV.out _ yG).mono ?_
  rintro e w2 ⟨rfl,xn⟩
  have DU:=yG.then xn
  go_wp2_with (first | (go_at_call 69; refine (HN.out _ DU).mono ?_; rintro e w3 ⟨rfl,xB⟩) | (go_at_call 170; refine (Fr.out _).mono ?_; rintro e w4 ⟨rfl,rfl⟩))
  refine (BZ.out _).mono ?_
  rintro e w5 ⟨rfl,hb5⟩
  have hb15:=av (av xn xB) hb5
  have L5:=L1.below hb15 L1.lt
  have c0:=L5.cell 0
  have c1:=L5.cell 1
  obtain ⟨f0,f1⟩:=frz2 L5
  have AB:=L5.lt
  simp only [gz0,gz1] at c0 c1
  clear L1 L5
  go_wp2_with fail
  refine bodyPost_ret (v:=.tuple #[.agg #[xh ⟨#[]⟩,xh ⟨#[]⟩],.bool false]) (by simp [results,Tryz.results123,go_sem, *]) rfl ⟨⟨#[]⟩,⟨#[]⟩,false,rfl,.inr ⟨rfl,HD.out⟩, ?_⟩
  rw [← hg] at *
  exact (av b1 hb15).trans (by repeat (first | exact Below.refl _ _ | refine Below.alloc ?_ (by simp; have:=b1.size; have:=hb15.size; omega) _ | refine Below.setCell ?_ sP _))
 | some u0 =>
  obtain ⟨u,rfl⟩ : ∃ u:ByteArray,u0=bl u:=⟨⟨u0.toArray⟩,(bO u0).symm⟩
  have Bu:=vB hv
  have Ol:u.size≤4000:=Bu.2.2.1
  rw [hv] at HV
  have HO:Hid (wl (some (bl u))=u):=(dU rfl).symm
  rw [HO.out] at HV
  have Gg:∀ W,Calls xi 170 #[xh u,xh (t++⟨#[32]⟩)] W fun e w'=>e=.returned (.tuple #[xh ⟨(Lib.trimPrefix (bl u) (Lib.itoa (k:Int)++[32])).toArray⟩,.bool (Lib.hasPrefix (bl u) (Lib.itoa (k:Int)++[32]))])∧w'=W:=fun W=>by
   rw [← BY.out]; exact Tryz.strings_CutPrefix u (t++⟨#[32]⟩) W
  by_cases hp:(Lib.itoa (k:Int)++[32]) <+: bl u
  ·have EK:Lib.hasPrefix (bl u) (Lib.itoa (k:Int)++[32])=true:=List.isPrefixOf_iff_prefix.2 hp
   have hsplit:=rv hp
   obtain ⟨u',hu'⟩ : ∃ u' : ByteArray,u'=⟨((bl u).drop (Lib.itoa (k:Int)++[32]).length).toArray⟩:=⟨_,rfl⟩
   have CW:bl u'=(bl u).drop (Lib.itoa (k:Int)++[32]).length:=by rw [hu',bO]
   rw [← CW] at hsplit
   have Fr:Hid (∀ W,Calls xi 170 #[xh u,xh (t++⟨#[32]⟩)] W fun e w'=>e=.returned (.tuple #[xh u',.bool true])∧w'=W):=fun W=>by
    have:=Gg W
    unfold Lib.trimPrefix at this
    rw [EK,if_pos rfl,← hu'] at this; exact this
   have Om:u'.size≤4000:=by rw [← ao,CW,List.length_drop,ao]; omega
   have BZ:=jZ (fun W=>qt u' 64 W oM)
   have yC:(aV u' 64).size≤4000:=by unfold aV; rw [← ao,bO]; have:=lP 64 (bl u'); rw [ao] at this; omega
   have Lx:(bh u' 64).size≤4000:=by unfold bh; rw [← ao,bO,List.length_drop,ao]; omega
   cases hat:gq (bl u') 64
   ·have HD:Hid (dZ k (bl s)=none):=uw Eh Bu hsplit (ll.1 hat)
    rw [hat] at BZ
    clear hv Bu Gg hp EK hsplit hu' CW hat
    go_enter Tryz.func123,Tryz.ntmps123
    go_wp2_with fail
    generalize w.alloc (.cells #[xh ⟨#[]⟩,xh ⟨#[]⟩] 62)=W at b1 L1 yG ⊢
    generalize hg:w.heap.size=g at L1 ⊢
    refine (HV.out _ yG).mono ?_
    rintro e w2 ⟨rfl,xn⟩
    have DU:=yG.then xn
    go_wp2_with (first | (go_at_call 69; refine (HN.out _ DU).mono ?_; rintro e w3 ⟨rfl,xB⟩) | (go_at_call 170; refine (Fr.out _).mono ?_; rintro e w4 ⟨rfl,rfl⟩))
    refine (BZ.out _).mono ?_
    rintro e w5 ⟨rfl,hb5⟩
    have hb15:=av (av xn xB) hb5
    have L5:=L1.below hb15 L1.lt
    have c0:=L5.cell 0
    have c1:=L5.cell 1
    obtain ⟨f0,f1⟩:=frz2 L5
    have AB:=L5.lt
    simp only [gz0,gz1] at c0 c1
    clear L1 L5
    go_wp2_with fail
    refine bodyPost_ret (v:=.tuple #[.agg #[xh ⟨#[]⟩,xh ⟨#[]⟩],.bool false]) (by simp [results,Tryz.results123,go_sem, *]) rfl ⟨⟨#[]⟩,⟨#[]⟩,false,rfl,.inr ⟨rfl,HD.out⟩, ?_⟩
    rw [← hg] at *
    exact (av b1 hb15).trans (by repeat (first | exact Below.refl _ _ | refine Below.alloc ?_ (by simp; have:=b1.size; have:=hb15.size; omega) _ | refine Below.setCell ?_ sP _))
   ·have yv:=rm (c:=bl (aV u' 64)) (r:=bl (bh u' 64)) Eh Bu (by
     rw [hsplit]; congr 1
     unfold aV bh; rw [bO,bO]; exact db (pD.1 hat)) (by unfold aV; rw [bO]; exact fK 64 _)
    rw [hat] at BZ
    cases xq:dj.ok ⟨aV u' 64,bh u' 64⟩
    ·have HD:Hid (dZ k (bl s)=none):=by
      rw [Hid,yv,if_neg (fun h=>by rw [show dj.ok ⟨aV u' 64,bh u' 64⟩=eX (bl (aV u' 64)) (bl (bh u' 64)) from rfl,h] at xq; cases xq)]
     have xF:=jZ xq
     clear hv Bu Gg hp EK hsplit hu' CW hat yv xq
     go_enter Tryz.func123,Tryz.ntmps123
     go_wp2_with fail
     generalize w.alloc (.cells #[xh ⟨#[]⟩,xh ⟨#[]⟩] 62)=W at b1 L1 yG ⊢
     generalize hg:w.heap.size=g at L1 ⊢
     refine (HV.out _ yG).mono ?_
     rintro e w2 ⟨rfl,xn⟩
     have DU:=yG.then xn
     go_wp2_with (first | (go_at_call 69; refine (HN.out _ DU).mono ?_; rintro e w3 ⟨rfl,xB⟩) | (go_at_call 170; refine (Fr.out _).mono ?_; rintro e w4 ⟨rfl,rfl⟩))
     refine (BZ.out _).mono ?_
     rintro e w5 ⟨rfl,hb5⟩
     have hb15:=av (av xn xB) hb5
     have L5:=L1.below hb15 L1.lt
     go_wp2_with fail
     have L6:=L5.alloc (.cells #[xh (aV u' 64),xh (bh u' 64)] 62)
     have N6:=ai.new w5 62 #[xh (aV u' 64),xh (bh u' 64)]
     have b6:=(Below.refl w5.heap.size w5).alloc nR (.cells #[xh (aV u' 64),xh (bh u' 64)] 62)
     generalize w5.alloc (.cells #[xh (aV u' 64),xh (bh u' 64)] 62)=W6 at L6 N6 b6 ⊢
     generalize y5:w5.heap.size=g5 at N6 ⊢
     refine (fy ⟨aV u' 64,bh u' 64⟩ _ (by simp only; omega) (by simp only; omega)).mono ?_
     rw [xF.out]
     rintro e w7 ⟨rfl,yX⟩
     have L7:=L6.below yX L6.lt
     have N7:=N6.below yX N6.lt
     have c0:=L7.cell 0
     have c1:=L7.cell 1
     obtain ⟨f0,f1⟩:=frz2 L7
     have d0:=N7.cell 0
     have d1:=N7.cell 1
     have AB:=L7.lt
     simp only [gz0,gz1] at c0 c1 d0 d1
     have hgB:w.heap.size≤g:=oM
     have yf:Below w.heap.size w w7:=av (av b1 hb15) (av (by rw [← y5] at *; exact b6) yX)
     clear L1 L5 L6 L7 N6 N7
     go_wp2_with fail
     refine bodyPost_ret (v:=.tuple #[.agg #[xh ⟨#[]⟩,xh ⟨#[]⟩],.bool false]) (by simp [results,Tryz.results123,go_sem, *]) rfl ⟨⟨#[]⟩,⟨#[]⟩,false,rfl,.inr ⟨rfl,HD.out⟩, ?_⟩
     exact yf.trans (by repeat (first | exact Below.refl _ _ | refine Below.setCell ?_ (by simp only; exact hgB) _))
    ·have HD:Hid (dZ k (bl s)=some (bl (aV u' 64),bl (bh u' 64))):=by
      rw [Hid,yv,if_pos (by exact xq)]
     have xF:=jZ xq
     clear hv Bu Gg hp EK hsplit hu' CW hat yv xq
     go_enter Tryz.func123,Tryz.ntmps123
     go_wp2_with fail
     generalize w.alloc (.cells #[xh ⟨#[]⟩,xh ⟨#[]⟩] 62)=W at b1 L1 yG ⊢
     generalize hg:w.heap.size=g at L1 ⊢
     refine (HV.out _ yG).mono ?_
     rintro e w2 ⟨rfl,xn⟩
     have DU:=yG.then xn
     go_wp2_with (first | (go_at_call 69; refine (HN.out _ DU).mono ?_; rintro e w3 ⟨rfl,xB⟩) | (go_at_call 170; refine (Fr.out _).mono ?_; rintro e w4 ⟨rfl,rfl⟩))
     refine (BZ.out _).mono ?_
     rintro e w5 ⟨rfl,hb5⟩
     have hb15:=av (av xn xB) hb5
     have L5:=L1.below hb15 L1.lt
     go_wp2_with fail
     have L6:=L5.alloc (.cells #[xh (aV u' 64),xh (bh u' 64)] 62)
     have N6:=ai.new w5 62 #[xh (aV u' 64),xh (bh u' 64)]
     have b6:=(Below.refl w5.heap.size w5).alloc nR (.cells #[xh (aV u' 64),xh (bh u' 64)] 62)
     generalize w5.alloc (.cells #[xh (aV u' 64),xh (bh u' 64)] 62)=W6 at L6 N6 b6 ⊢
     generalize y5:w5.heap.size=g5 at N6 ⊢
     refine (fy ⟨aV u' 64,bh u' 64⟩ _ (by simp only; omega) (by simp only; omega)).mono ?_
     rw [xF.out]
     rintro e w7 ⟨rfl,yX⟩
     have L7:=L6.below yX L6.lt
     have N7:=N6.below yX N6.lt
     have c0:=L7.cell 0
     have c1:=L7.cell 1
     obtain ⟨f0,f1⟩:=frz2 L7
     have d0:=N7.cell 0
     have d1:=N7.cell 1
     have AB:=L7.lt
     simp only [gz0,gz1] at c0 c1 d0 d1
     have hgB:w.heap.size≤g:=oM
     have yf:Below w.heap.size w w7:=av (av b1 hb15) (av (by rw [← y5] at *; exact b6) yX)
     clear L1 L5 L6 L7 N6 N7
     go_wp2_with fail
     refine bodyPost_ret (v:=.tuple #[.agg #[xh (aV u' 64),xh (bh u' 64)],.bool true]) (by simp [results,Tryz.results123,go_sem, *]) rfl ⟨aV u' 64,bh u' 64,true,rfl,.inl ⟨rfl,HD.out⟩, ?_⟩
     exact yf.trans (by repeat (first | exact Below.refl _ _ | refine Below.setCell ?_ (by simp only; exact hgB) _))
  ·have Ly:Lib.hasPrefix (bl u) (Lib.itoa (k:Int)++[32])=false:=by
    rcases h:Lib.hasPrefix (bl u) (Lib.itoa (k:Int)++[32]) with _ | _
    ·rfl
    ·exact absurd (List.isPrefixOf_iff_prefix.1 h) hp
   have HD:Hid (dZ k (bl s)=none):=su Eh Bu hp
   have Fr:Hid (∀ W,Calls xi 170 #[xh u,xh (t++⟨#[32]⟩)] W fun e w'=>e=.returned (.tuple #[xh u,.bool false])∧w'=W):=fun W=>by
    have:=Gg W
    unfold Lib.trimPrefix at this
    rw [Ly] at this
    simp only [Bool.false_eq_true,if_false] at this
    rwa [show (⟨(bl u).toArray⟩ : ByteArray)=u from (dU rfl).symm] at this
   have BZ:=jZ (fun W=>qt u 64 W oM)
   generalize gq (bl u) 64=hb at BZ
   clear hv Bu Gg hp Ly
   go_enter Tryz.func123,Tryz.ntmps123
   go_wp2_with fail
   generalize w.alloc (.cells #[xh ⟨#[]⟩,xh ⟨#[]⟩] 62)=W at b1 L1 yG ⊢
   generalize hg:w.heap.size=g at L1 ⊢
   refine (HV.out _ yG).mono ?_
   rintro e w2 ⟨rfl,xn⟩
   have DU:=yG.then xn
   go_wp2_with (first | (go_at_call 69; refine (HN.out _ DU).mono ?_; rintro e w3 ⟨rfl,xB⟩) | (go_at_call 170; refine (Fr.out _).mono ?_; rintro e w4 ⟨rfl,rfl⟩))
   refine (BZ.out _).mono ?_
   rintro e w5 ⟨rfl,hb5⟩
   have hb15:=av (av xn xB) hb5
   have L5:=L1.below hb15 L1.lt
   have c0:=L5.cell 0
   have c1:=L5.cell 1
   obtain ⟨f0,f1⟩:=frz2 L5
   have AB:=L5.lt
   simp only [gz0,gz1] at c0 c1
   clear L1 L5
   go_wp2_with fail
   refine bodyPost_ret (v:=.tuple #[.agg #[xh ⟨#[]⟩,xh ⟨#[]⟩],.bool false]) (by simp [results,Tryz.results123,go_sem, *]) rfl ⟨⟨#[]⟩,⟨#[]⟩,false,rfl,.inr ⟨rfl,HD.out⟩, ?_⟩
   rw [← hg] at *
   exact (av b1 hb15).trans (by repeat (first | exact Below.refl _ _ | refine Below.alloc ?_ (by simp; have:=b1.size; have:=hb15.size; omega) _ | refine Below.setCell ?_ sP _))
end Go.Proofs.YtoeoimhemojdeaaGreatDoor
namespace Go.Proofs.YtoeoimhemojdeaaGreatDoor
def dF (b:UInt8):List UInt8→List UInt8→List (List UInt8)
 | cur,[]=>[cur]
 | cur,x :: l=>if x=b then cur :: dF b [] l else dF b (cur++[x]) l
def aH (b:UInt8) (s:List UInt8):List (List UInt8):=dF b [] s
theorem ox {b:UInt8} : ∀ {l cur:List UInt8},b ∉ l→dF b cur l = [cur++l]
 | [],_,_=>by simp [dF]
 | x :: l,cur,h=>by
  simp only [List.mem_cons,not_or] at h
  rw [dF,if_neg (Ne.symm h.1),ox h.2]; simp
theorem pF {b:UInt8} {r:List UInt8} : ∀ {t cur:List UInt8},b ∉ t→dF b cur (t++b :: r)=(cur++t) :: dF b [] r
 | [],_,_=>by simp [dF]
 | x :: t,cur,h=>by
  simp only [List.mem_cons,not_or] at h
  rw [List.cons_append,dF,if_neg (Ne.symm h.1),pF h.2]; simp
theorem jR {b:UInt8} {l:List UInt8} (h:b ∉ l):aH b l = [l]:=by unfold aH; rw [ox h]; rfl
theorem pG {b:UInt8} {t r:List UInt8} (h:b ∉ t):aH b (t++b :: r)=t :: aH b r:=by unfold aH; rw [pF h]; rfl
theorem lU (b:UInt8):∀ (l cur:List UInt8),dF b cur l ≠ []
 | [],_=>by simp [dF]
 | x :: l,cur=>by
  unfold dF; split
  ·simp
  ·exact lU b l _
theorem gF (b:UInt8):∀ (l cur:List UInt8),(dF b cur l).length≤l.length+1
 | [],_=>by simp [dF]
 | x :: l,cur=>by
  unfold dF; split
  ·have:=gF b l []; simp; omega
  ·have:=gF b l (cur++[x]); simp; omega
theorem my {b:UInt8} {t:List UInt8} : ∀ (l cur:List UInt8),t ∈ dF b cur l→t.length≤cur.length+l.length
 | [],cur,h=>by simp only [dF,List.mem_singleton] at h; subst h; simp
 | x :: l,cur,h=>by
  unfold dF at h; split at h
  ·rcases List.mem_cons.1 h with h | h
   ·subst h; omega
   ·have:=my l [] h; simp at this ⊢; omega
  ·have:=my l _ h; simp at this ⊢; omega
theorem gG (b:UInt8) (s:List UInt8):∃ ps,aH b s=cJ b s :: ps∧(ps = [] ↔ b ∉ s):=by
 rcases ko b s with ⟨h1,h2⟩ | ⟨r,h⟩
 ·exact ⟨[],by rw [jR h1,h2],by simp [h1]⟩
 ·refine ⟨aH b r, ?_, ?_⟩
  ·have h1:=pG (r:=r) (fK b s)
   rw [← h] at h1; exact h1
  ·constructor
   ·intro e; exact absurd e (lU b r [])
   ·intro hn; exact absurd (by rw [h]; simp) hn
end Go.Proofs.YtoeoimhemojdeaaGreatDoor
namespace Go.Proofs.YtoeoimhemojdeaaGreatDoor
open Go.RowKit
def ex (ps:List (List UInt8)):List Value:=ps.map fun p=>Value.string ⟨p.toArray⟩
theorem uy (ps:List (List UInt8)):(ex ps).length=ps.length * 1:=by simp [ex]
theorem ry:(xi.info? 9).map (fun i=>(i.zero,i.size,i.bytes))=some (some (xh ⟨#[]⟩),1,16):=kZ
theorem sG {s:ByteArray} {f i:Nat} {b:UInt8} (On:f≤i) (hi:i < s.size) :
  dF b (((bl s).take i).drop f) ((bl s).drop i)=if s[i]=b then ((bl s).take i).drop f :: dF b (((bl s).take (i+1)).drop (i+1)) ((bl s).drop (i+1)) else dF b (((bl s).take (i+1)).drop f) ((bl s).drop (i+1)):=by
 rw [kG hi,dF]
 have e1:((bl s).take (i+1)).drop (i+1) = []:=List.drop_eq_nil_of_le (by rw [List.length_take]; omega)
 have e2:((bl s).take (i+1)).drop f=((bl s).take i).drop f++[s[i]]:=by
  rw [wk hi,List.drop_append_of_le_length (by rw [List.length_take,ao]; omega)]
 rw [e1,e2]
set_option maxRecDepth 100000 in
theorem iZ (s:ByteArray) (b:UInt8) (w:World) (hs:s.size≤100000000) :
  Calls xi 58 #[xh s,.int .u8 b.toNat] w fun e w'=>∃ A c,e=.returned (F A (aH b (bl s)).length c)∧w'.ownsRow w.heap.size 9 1 (F A (aH b (bl s)).length c) (aH b (bl s)).length (ex (aH b (bl s)))∧Below w.heap.size w w':=by
 have b0:=bZ w (.cells #[] 9)
 have O0:Hid ((w.alloc (.cells #[] 9)).ownsRow w.heap.size 9 1 (F (some ⟨w.heap.size,0,none⟩) 0 0) 0 (ex [])):=dI (ai.new w 9 #[]) nR
 have DV:Hid (∀ l cur:List UInt8,(dF b cur l).length≤l.length+1):=gF b
 go_enter Tryz.func58,Tryz.ntmps58
 go_wp2
 go_loopw [5,6,7] (fun o fr i wr=>∃ (f k:Nat) (A:Option Addr) (c:Nat) (ps:List (List UInt8)),f≤k∧k≤s.size∧ps.length≤k∧o=F A ps.length c∧fr=O U f∧i=O U k∧(∃ q:aq w.heap.size w,wr=q.val) ∧
  Hid (aH b (bl s)=ps++dF b (((bl s).take k).drop f) ((bl s).drop k))∧Hid (wr.ownsRow w.heap.size 9 1 (F A ps.length c) ps.length (ex ps))) (fun _ _ i _=>s.size - (intOf i).toNat)
 case atStart=>exact ⟨0,0,some ⟨w.heap.size,0,none⟩,0,[],Nat.le_refl _,Nat.zero_le _,sP,rfl,rfl,rfl,⟨⟨_,b0⟩,rfl⟩,rfl,O0⟩
 case round =>
  obtain ⟨f,k,A,c,ps,Gh,hk,Bg,rfl,rfl,rfl,⟨q,rfl⟩,HF,HR⟩:=hrel
  have DW:=q.size
  by_cases xu:k < s.size
  ·have Ar:=jZ (sG (b:=b) Gh xu)
   have hq:=@wE s[k] b
   have i1:(f:Int)≤(k:Int):=oM
   have i2:(k:Int)≤(s.size:Int):=oM
   by_cases zW:s[k]=b
   ·rw [if_pos zW] at Ar
    rw [jD zW] at hq
    have HB:Hid (bl (s.extract f k)=((bl s).take k).drop f):=bH _ _ _
    clear zW
    go_wp2_with (at_builtin; refine cw (w0:=q.val) rfl (.tmp 20) (.tmp 25) 49 rfl 9 (xh ⟨#[]⟩) 1 16 Tryz.underlying49 ry rfl (by omega) (by omega) w.heap.size _ _ _ rfl HR #[xh (s.extract f k)] 1 _ rfl (by first | rfl | simp | exact Array.size_push _) rfl (by simp [Value.oneCell']) (by omega) DW rfl rfl rfl rfl ?_; intro v5 w5 AR y5 hb5)
    obtain ⟨A5,c5,Aw⟩:=az AR.out
    subst Aw
    go_roundw
    case rel =>
     refine ⟨k+1,k+1,A5,c5,ps++[((bl s).take k).drop f],Nat.le_refl _,oM,by simp; omega,sP,by go_num,by go_num,⟨q.go' hb5,rfl⟩, ?_, ?_⟩
     ·have h1:=HF.out; rw [Ar.out] at h1; rw [Hid,h1]; simp
     ·have h1:=AR.out; rw [Hid]
      have h2:ex (ps++[((bl s).take k).drop f])=ex ps++[Value.string (s.extract f k)]:=by unfold ex; rw [List.map_append,← HB.out]; simp [← dU rfl]
      rw [h2]; simpa using h1
    case measure=>simp [intOf]; omega
   ·rw [if_neg zW] at Ar
    rw [jE zW] at hq
    clear zW
    go_wp2
    go_roundw
    case rel=>exact ⟨f,k+1,A,c,ps,oM,oM,oM,rfl,rfl,by go_num,⟨q,rfl⟩,by have h1:=HF.out; rw [Ar.out] at h1; exact h1,HR⟩
    case measure=>simp [intOf]; omega
  ·obtain rfl:k=s.size:=oM
   have i1:(f:Int)≤(s.size:Int):=oM
   have HB:Hid (bl (s.extract f s.size)=((bl s).take s.size).drop f):=bH _ _ _
   have Cp:Hid (aH b (bl s)=ps++[((bl s).take s.size).drop f]):=by
    have h1:=HF.out
    have e0:(bl s).drop s.size = []:=List.drop_eq_nil_of_le (by rw [ao]; exact Nat.le_refl _)
    rw [e0] at h1; exact h1
   go_wp2_with (at_builtin; refine cw (w0:=q.val) rfl (.tmp 29) (.tmp 33) 49 rfl 9 (xh ⟨#[]⟩) 1 16 Tryz.underlying49 ry rfl (by omega) (by omega) w.heap.size _ _ _ rfl HR #[xh (s.extract f s.size)] 1 _ rfl (by first | rfl | simp | exact Array.size_push _) rfl (by simp [Value.oneCell']) (by omega) DW rfl rfl rfl rfl ?_; intro v5 w5 AR y5 hb5)
   obtain ⟨A5,c5,Aw⟩:=az AR.out
   subst Aw
   go_ret
   have h2:ex (ps++[((bl s).take s.size).drop f])=ex ps++[Value.string (s.extract f s.size)]:=by unfold ex; rw [List.map_append,← HB.out]; simp [← dU rfl]
   rw [Cp.out,h2]
   refine ⟨A5,c5,sP, ?_,(q.go' hb5).below⟩
   have h1:=AR.out
   simpa using h1
theorem kq {w:World} {B:Nat} {A:Option Addr} {c:Nat} {s:ByteArray} {b:UInt8} (h:w.ownsRow B 9 1 (F A (aH b (bl s)).length c) (aH b (bl s)).length (ex (aH b (bl s)))) :
  ∃ g,A=some ⟨g,0,none⟩∧w.cell? ⟨g,0,none⟩=some (xh (aV s b))∧B≤g∧g < w.heap.size:=by
 obtain ⟨ps,Bg,_⟩:=gG b (bl s)
 have xt:0 < (aH b (bl s)).length:=by rw [Bg]; simp
 obtain ⟨g,hA⟩ : ∃ g,A=some ⟨g,0,none⟩:=by
  obtain ⟨_,h0 | ⟨g,cap,cur,hv,_⟩⟩:=h
  ·have:=h0.2; omega
  ·injection hv with e1 e2 e3; exact ⟨g,e1⟩
 subst hA
 refine ⟨g,rfl, ?_,(h.lt g rfl).1,(h.lt g rfl).2⟩
 rw [h.cellAt 0 oM,Bg]
 rfl
set_option maxRecDepth 100000 in
theorem rz (k:Nat) (s:ByteArray) (w:World) (hk:k≤1000) (hs:s.size≤1000000) :
  Calls xi 128 #[xh s,O U k] w (ow k s w):=by
 have b1:=bZ w (.cells #[xh ⟨#[]⟩,xh ⟨#[]⟩] 62)
 have L1:=ai.new w 62 #[xh ⟨#[]⟩,xh ⟨#[]⟩]
 obtain ⟨t,zL⟩ : ∃ t:ByteArray,t=⟨(Lib.itoa (k:Int)).toArray⟩:=⟨_,rfl⟩
 have DT:t.size≤100:=by rw [zL]; exact cU oM oM
 have HN:Hid (∀ W,Calls xi 71 #[O U k] W fun e w'=>e=.returned (xh t)∧Below W.heap.size W w'):=fun W=>by rw [zL]; exact cy (k:Int) W oM oM
 have HT:Hid (bl t=Lib.itoa (k:Int)):=by rw [zL,Hid,bO]
 have BY:Hid (bl (t++⟨#[32]⟩)=Lib.itoa (k:Int)++[32]):=by rw [Hid,dw,HT.out]; rfl
 clear zL
 have z1:(⟨#[32]⟩ : ByteArray).size=1:=rfl
 have z2:(⟨#[10]⟩ : ByteArray).size=1:=rfl
 have Dt:=jZ (fun W=>iZ s 35 W oM)
 obtain ⟨x,hx⟩ : ∃ x:ByteArray,x=aV s 35:=⟨_,rfl⟩
 have za:bl x=cJ 35 (bl s):=by rw [hx]; unfold aV; rw [bO]
 have Ay:x.size≤1000000:=by rw [← ao,za]; have:=lP 35 (bl s); rw [ao] at this; omega
 have yj:Hid (∀ (W:World) (B:Nat) (A:Option Addr) (c:Nat),W.ownsRow B 9 1 (F A (aH 35 (bl s)).length c) (aH 35 (bl s)).length (ex (aH 35 (bl s)))→∃ g,A=some ⟨g,0,none⟩∧W.cell? ⟨g,0,none⟩=some (xh x)∧B≤g∧g < W.heap.size):=fun W B A c h=>by
  rw [hx]; exact kq h
 have Kd:1≤(aH 35 (bl s)).length:=by obtain ⟨ps,e,_⟩:=gG 35 (bl s); rw [e]; simp
 have Ke:(aH 35 (bl s)).length≤1000001:=by have:=gF 35 (bl s) []; rw [ao] at this; unfold aH; omega
 obtain ⟨n0,zj⟩ : ∃ n,n=(aH 35 (bl s)).length:=⟨_,rfl⟩
 rw [← zj] at Dt yj Kd Ke
 clear hx zj
 obtain ⟨p,hp⟩ : ∃ p:ByteArray,p=t++⟨#[32]⟩:=⟨_,rfl⟩
 have Hg:p.size=t.size+1:=by rw [hp,bg]; rfl
 by_cases AC:(Lib.itoa (k:Int)++[32]) <+: bl x
 ·have hsplit:=rv AC
  have MV:p.size≤x.size:=by have:=AC.length_le; rw [← BY.out,← hp,ao,ao] at this; exact this
  obtain ⟨u,hu⟩ : ∃ u:ByteArray,u=x.extract p.size x.size:=⟨_,rfl⟩
  have CW:bl u=(bl x).drop (Lib.itoa (k:Int)++[32]).length:=by
   rw [hu,bH,List.take_of_length_le (by rw [ao]; exact Nat.le_refl _),← BY.out,← hp,ao]
  rw [← CW] at hsplit
  have Oo:u.size≤1000000:=by rw [← ao,CW,List.length_drop,ao]; omega
  have d1:decide ((x.size:Int) < (p.size:Int))=false:=jE oM
  have d2:((x.extract 0 p.size).toList == p.toList)=true:=by
   rw [lT]; refine jD ?_
   have e1:bl p=Lib.itoa (k:Int)++[32]:=by rw [hp]; exact BY.out
   rw [bH,List.drop_zero,e1,hsplit,show p.size=(Lib.itoa (k:Int)++[32]).length by rw [← e1]; rfl]
   exact List.take_left' rfl
  have Hh:Hid (∀ W,Calls xi 58 #[xh u,.int .u8 64] W fun e w'=>∃ A c,e=.returned (F A (aH 64 (bl u)).length c)∧w'.ownsRow W.heap.size 9 1 (F A (aH 64 (bl u)).length c) (aH 64 (bl u)).length (ex (aH 64 (bl u)))∧Below W.heap.size W w'):=fun W=>by
   exact iZ u 64 W oM
  have zx:Hid (∀ (W:World) (B:Nat) (A:Option Addr) (c:Nat),W.ownsRow B 9 1 (F A (aH 64 (bl u)).length c) (aH 64 (bl u)).length (ex (aH 64 (bl u)))→∃ g,A=some ⟨g,0,none⟩∧W.cell? ⟨g,0,none⟩=some (xh (aV u 64))∧B≤g∧g < W.heap.size):=fun W B A c h=>kq h
  have Kf:1≤(aH 64 (bl u)).length:=by obtain ⟨ps,e,_⟩:=gG 64 (bl u); rw [e]; simp
  have Kg:(aH 64 (bl u)).length≤1000001:=by have:=gF 64 (bl u) []; rw [ao] at this; unfold aH; omega
  obtain ⟨n1,zJ⟩ : ∃ n,n=(aH 64 (bl u)).length:=⟨_,rfl⟩
  rw [← zJ] at Hh zx Kf Kg
  clear zJ
  have yC:(aV u 64).size≤u.size:=by unfold aV; rw [← ao,bO]; have:=lP 64 (bl u); rw [ao] at this; omega
  have Kh:u.size=x.size - p.size:=by rw [hu,← ao,bH,List.length_drop,List.length_take,ao]; omega
  have Oq:Hid (p=t++⟨#[32]⟩):=hp
  subst hp
  rw [Hg] at MV d1 d2 Kh hu
  have HU:=jZ hu; clear hu
  have Ot:=jZ Kh; clear Kh
  have i1:(t.size:Int)+1≤(x.size:Int):=oM
  by_cases hat:(64:UInt8) ∈ bl u
  ·have hparts:=db hat
   have yv:=qn (c:=bl (aV u 64)) (r:=bl (bh u 64)) (s:=bl s) (k:=k) (by rw [← za,hsplit]; rw [show bl (aV u 64)++64 :: bl (bh u 64)=bl u by unfold aV bh; rw [bO,bO]; exact hparts.symm]) (by unfold aV; rw [bO]; exact fK 64 _)
   have xt:=congrArg List.length hparts
   have Ki:(aV u 64).size=(cJ 64 (bl u)).length:=by unfold aV; rw [← ao,bO]
   simp only [List.length_append,List.length_cons,List.length_drop,ao] at xt
   have Ou:(aV u 64).size+1≤u.size:=oM
   have d3:(((aV u 64).size:Int) == (u.size:Int))=false:=by simp; omega
   have HR:Hid (u.extract ((aV u 64).size+1) u.size=bh u 64):=by
    unfold bh Hid; refine dU ?_
    rw [bH,List.take_of_length_le (by rw [ao]; exact Nat.le_refl _),Ki]
   have Lx:(bh u 64).size≤1000000:=by unfold bh; rw [← ao,bO,List.length_drop,ao]; omega
   have HG:=jZ (fun W=>gV ⟨aV u 64,bh u 64⟩ W (by simp only; omega) (by simp only; omega))
   have BH:=jZ (fun W=>m8 k ⟨aV u 64,bh u 64⟩ W hk (by simp only; omega) Lx)
   obtain ⟨ln,Bv⟩ : ∃ ln:ByteArray,ln=⟨(bT k (bl (aV u 64)) (bl (bh u 64))).toArray⟩:=⟨_,rfl⟩
   simp only [← Bv] at BH
   have Du:bl ln=bT k (bl (aV u 64)) (bl (bh u 64)):=by rw [Bv,bO]
   clear xt Ki hparts hat
   cases xq:dj.ok ⟨aV u 64,bh u 64⟩
   ·rw [xq] at HG
    have HD:Hid (dZ k (bl s)=none):=by
     rw [Hid,yv,if_neg (fun h=>by rw [show dj.ok ⟨aV u 64,bh u 64⟩=eX (bl (aV u 64)) (bl (bh u 64)) from rfl,h.1] at xq; cases xq)]
    clear AC hsplit CW za yv xq Bv Du
    go_enter Tryz.func128,Tryz.ntmps128
    go_wp2_with fail
    generalize w.alloc (.cells #[xh ⟨#[]⟩,xh ⟨#[]⟩] 62)=W at b1 L1 ⊢
    generalize hg:w.heap.size=g at L1 ⊢
    refine (HN.out _).mono ?_
    rintro e w2 ⟨rfl,xn⟩
    go_wp2_with fail
    refine (Dt.out _).mono ?_
    rintro e w3 ⟨A3,c3,rfl,xN,xB⟩
    obtain ⟨g3,rfl,x0,hg3,hg3'⟩:=yj.out _ _ _ _ xN
    have yq:=av xn xB
    have L3:=L1.below yq L1.lt
    clear xN
    go_wp2_with fail
    rw [← HU.out]
    refine (Hh.out _).mono ?_
    rintro e w4 ⟨A4,c4,rfl,xL,xy⟩
    obtain ⟨g4,rfl,x1,yb,hg4'⟩:=zx.out _ _ _ _ xL
    have hb14:=av yq xy
    have L4:=L3.below xy L3.lt
    clear xL
    have Lz:((aV u 64).size:Int)+1≤(u.size:Int):=oM
    go_wp2_with fail
    rw [HR.out]
    have N5:=ai.new w4 62 #[xh (aV u 64),xh (bh u 64)]
    have L5:=L4.alloc (.cells #[xh (aV u 64),xh (bh u 64)] 62)
    have hb5:=(av b1 hb14).trans ((Below.refl w.heap.size w4).alloc (by have:=(av b1 hb14).size; omega) (.cells #[xh (aV u 64),xh (bh u 64)] 62))
    generalize w4.alloc (.cells #[xh (aV u 64),xh (bh u 64)] 62)=W5 at N5 L5 hb5 ⊢
    have xw:g ≠ w4.heap.size:=by have:=L4.lt; omega
    generalize w4.heap.size=ge at N5 xw ⊢
    have AL:w.heap.size≤g:=oM
    clear L1 L3 L4 x0 x1
    refine hH (fun W9=>(∃ a b,ai W9 g 62 [xh a,xh b])∧ai W9 ge 62 [xh (aV u 64),xh (bh u 64)]∧Below w.heap.size w W9) (fun W8 W9=>ai W8 g 62 [xh (aV u 64),xh (bh u 64)]→ai W9 g 62 [xh (aV u 64),xh (bh u 64)]) kZ kZ kZ ⟨⟨_,_,L5.below jB.drew L5.lt⟩,N5.below jB.drew N5.lt,hb5.drew⟩ ?_
    simp only [ax,Act.put,sA,gs0,gs1,Nat.zero_add,Nat.reduceAdd]
    refine aJ (.agg #[xh (aV u 64),xh (bh u 64)]) (fun vs w9 xj hB K9 xk=>?_) ?_
    ·obtain ⟨⟨a9,b9,xl⟩,xD,xG⟩:=xj
     have q0:w9.cell? ⟨ge,0,none⟩=some (xh (aV u 64)):=xD.cell 0
     have q1:w9.cell? ⟨ge,1,none⟩=some (xh (bh u 64)):=xD.cell 1
     go_simp
     exact xk _ _ rfl ⟨⟨a9,b9,xl⟩,xD,xG⟩ id
    refine aJ (.agg #[xh (aV u 64),xh (bh u 64)]) (fun vs w9 xj hB K9 xk=>?_) ?_
    ·obtain ⟨⟨a9,b9,xl⟩,xD,xG⟩:=xj
     have q0:w9.cell? ⟨ge,0,none⟩=some (xh (aV u 64)):=xD.cell 0
     have q1:w9.cell? ⟨ge,1,none⟩=some (xh (bh u 64)):=xD.cell 1
     go_simp
     exact xk _ _ rfl ⟨⟨a9,b9,xl⟩,xD,xG⟩ id
    refine aJ (.bool false) (fun vs w9 xj hB K9 xk=>?_) ?_
    ·have AG:=hB 1 _ kZ rfl
     simp only [AG] at xk ⊢
     obtain ⟨⟨a9,b9,xl⟩,xD,xG⟩:=xj
     go_simp
     refine (HG.out _).mono ?_
     rintro e8 w8 ⟨rfl,xm⟩
     exact xk _ _ rfl ⟨⟨a9,b9,xl.below xm xl.lt⟩,xD.below xm xD.lt,xG.trans (xm.mono xG.size)⟩ (fun h=>h.below xm h.lt)
    refine aJ (.bool false) (fun vs w9 xj hB K9 xk=>?_) ?_
    ·have AH:=hB 2 _ kZ rfl
     simp only [AH] at xk ⊢
     obtain ⟨⟨a9,b9,xl⟩,xD,xG⟩:=xj
     go_simp
     exact xk _ _ rfl ⟨⟨a9,b9,xl⟩,xD,xG⟩ id
    refine aJ (undef) (fun vs w9 xj hB K9 xk=>?_) ?_
    ·have yB:=hB 3 _ kZ rfl
     simp only [yB] at xk ⊢
     obtain ⟨⟨a9,b9,xl⟩,xD,xG⟩:=xj
     go_simp
     exact xk _ _ rfl ⟨⟨a9,b9,xl⟩,xD,xG⟩ id
    refine aJ (undef) (fun vs w9 xj hB K9 xk=>?_) ?_
    ·have yB:=hB 3 _ kZ rfl
     simp only [yB] at xk ⊢
     obtain ⟨⟨a9,b9,xl⟩,xD,xG⟩:=xj
     go_simp
     exact xk _ _ rfl ⟨⟨a9,b9,xl⟩,xD,xG⟩ id
    refine aJ (undef) (fun vs w9 xj hB K9 xk=>?_) ?_
    ·have yB:=hB 3 _ kZ rfl
     simp only [yB] at xk ⊢
     obtain ⟨⟨a9,b9,xl⟩,xD,xG⟩:=xj
     go_simp
     exact xk _ _ rfl ⟨⟨a9,b9,xl⟩,xD,xG⟩ id
    refine aJ (undef) (fun vs w9 xj hB K9 xk=>?_) ?_
    ·have yB:=hB 3 _ kZ rfl
     simp only [yB] at xk ⊢
     obtain ⟨⟨a9,b9,xl⟩,xD,xG⟩:=xj
     go_simp
     exact xk _ _ rfl ⟨⟨a9,b9,xl⟩,xD,xG⟩ id
    refine aJ (undef) (fun vs w9 xj hB K9 xk=>?_) ?_
    ·have yB:=hB 3 _ kZ rfl
     simp only [yB] at xk ⊢
     obtain ⟨⟨a9,b9,xl⟩,xD,xG⟩:=xj
     go_simp
     exact xk _ _ rfl ⟨⟨a9,b9,xl⟩,xD,xG⟩ id
    refine aJ (undef) (fun vs w9 xj hB K9 xk=>?_) ?_
    ·have yB:=hB 3 _ kZ rfl
     simp only [yB] at xk ⊢
     obtain ⟨⟨a9,b9,xl⟩,xD,xG⟩:=xj
     go_simp
     exact xk _ _ rfl ⟨⟨a9,b9,xl⟩,xD,xG⟩ id
    refine aJ (.bool false) (fun vs w9 xj hB K9 xk=>?_) ?_
    ·have yB:=hB 3 _ kZ rfl
     simp only [yB] at xk ⊢
     obtain ⟨⟨a9,b9,xl⟩,xD,xG⟩:=xj
     go_simp
     exact xk _ _ rfl ⟨⟨a9,b9,xl⟩,xD,xG⟩ id
    refine jF (fun _ W9=>ai W9 g 62 [xh (aV u 64),xh (bh u 64)]) (fun _ _ _ h hT=>hT h) (fun vs w9 xj hB K9 xk=>?_) ?_
    ·have Bb:=hB 0 _ kZ rfl
     simp only [Bb] at xk ⊢
     obtain ⟨⟨a9,b9,xl⟩,xD,xG⟩:=xj
     have q0:w9.cell? ⟨g,0,none⟩=some (xh a9):=xl.cell 0
     have q1:w9.cell? ⟨g,1,none⟩=some (xh b9):=xl.cell 1
     obtain ⟨f0,f1⟩:=frz2 xl
     have hS:ai ((w9.setCell ⟨g,0,none⟩ (xh (aV u 64))).setCell ⟨g,1,none⟩ (xh (bh u 64))) g 62 [xh (aV u 64),xh (bh u 64)]:=(xl.set 0 (xh (aV u 64))).set 1 (xh (bh u 64))
     have hN:ai ((w9.setCell ⟨g,0,none⟩ (xh (aV u 64))).setCell ⟨g,1,none⟩ (xh (bh u 64))) ge 62 [xh (aV u 64),xh (bh u 64)]:=(xD.other (p:=⟨g,0,none⟩) (Ne.symm xw) _).other (p:=⟨g,1,none⟩) (Ne.symm xw) _
     have hW:=(xG.setCell (p:=⟨g,0,none⟩) AL (xh (aV u 64))).setCell (p:=⟨g,1,none⟩) AL (xh (bh u 64))
     go_simp
     exact xk _ undef _ rfl hS ⟨⟨_,_,hS⟩,hN,hW⟩ (fun _=>hS)
    refine aJ (.bool false) (fun vs w9 xj hB K9 xk=>?_) ?_
    ·have hd10:=hB 10 _ kZ rfl
     simp only [hd10] at xk ⊢
     obtain ⟨⟨a9,b9,xl⟩,xD,xG⟩:=xj
     go_simp
     exact xk _ _ rfl ⟨⟨a9,b9,xl⟩,xD,xG⟩ id
    refine ke fun vs W9 xj hB=>?_
    have hv12:=hB 12 _ rfl
    have hS:=hB 11 _ rfl
    obtain ⟨_,_,xG⟩:=xj
    simp only [hv12]
    obtain ⟨c0,c1⟩:=cells2 hS
    clear hS hB hv12
    go_wp2_with fail
    refine bodyPost_ret (v:=.tuple #[.agg #[xh (aV u 64),xh (bh u 64)],.bool false]) (by simp [results,Tryz.results128,go_sem, *]) rfl ⟨aV u 64,bh u 64,false,rfl,.inr ⟨rfl,HD.out⟩,xG⟩
   ·rw [xq] at HG
    by_cases zW:bT k (bl (aV u 64)) (bl (bh u 64))=bl s++[10]
    ·have HD:Hid (dZ k (bl s)=some (bl (aV u 64),bl (bh u 64))):=by rw [Hid,yv,if_pos ⟨xq,zW⟩]
     have Kj:Hid ((ln.toList == (s++⟨#[10]⟩ : ByteArray).toList)=true):=by rw [Hid,lT]; exact jD (by rw [Du,zW,dw]; rfl)
     clear AC hsplit CW za yv xq zW Bv Du
     go_enter Tryz.func128,Tryz.ntmps128
     go_wp2_with fail
     generalize w.alloc (.cells #[xh ⟨#[]⟩,xh ⟨#[]⟩] 62)=W at b1 L1 ⊢
     generalize hg:w.heap.size=g at L1 ⊢
     refine (HN.out _).mono ?_
     rintro e w2 ⟨rfl,xn⟩
     go_wp2_with fail
     refine (Dt.out _).mono ?_
     rintro e w3 ⟨A3,c3,rfl,xN,xB⟩
     obtain ⟨g3,rfl,x0,hg3,hg3'⟩:=yj.out _ _ _ _ xN
     have yq:=av xn xB
     have L3:=L1.below yq L1.lt
     clear xN
     go_wp2_with fail
     rw [← HU.out]
     refine (Hh.out _).mono ?_
     rintro e w4 ⟨A4,c4,rfl,xL,xy⟩
     obtain ⟨g4,rfl,x1,yb,hg4'⟩:=zx.out _ _ _ _ xL
     have hb14:=av yq xy
     have L4:=L3.below xy L3.lt
     clear xL
     have Lz:((aV u 64).size:Int)+1≤(u.size:Int):=oM
     go_wp2_with fail
     rw [HR.out]
     have N5:=ai.new w4 62 #[xh (aV u 64),xh (bh u 64)]
     have L5:=L4.alloc (.cells #[xh (aV u 64),xh (bh u 64)] 62)
     have hb5:=(av b1 hb14).trans ((Below.refl w.heap.size w4).alloc (by have:=(av b1 hb14).size; omega) (.cells #[xh (aV u 64),xh (bh u 64)] 62))
     generalize w4.alloc (.cells #[xh (aV u 64),xh (bh u 64)] 62)=W5 at N5 L5 hb5 ⊢
     have xw:g ≠ w4.heap.size:=by have:=L4.lt; omega
     generalize w4.heap.size=ge at N5 xw ⊢
     have AL:w.heap.size≤g:=oM
     clear L1 L3 L4 x0 x1
     refine hH (fun W9=>(∃ a b,ai W9 g 62 [xh a,xh b])∧ai W9 ge 62 [xh (aV u 64),xh (bh u 64)]∧Below w.heap.size w W9) (fun W8 W9=>ai W8 g 62 [xh (aV u 64),xh (bh u 64)]→ai W9 g 62 [xh (aV u 64),xh (bh u 64)]) kZ kZ kZ ⟨⟨_,_,L5.below jB.drew L5.lt⟩,N5.below jB.drew N5.lt,hb5.drew⟩ ?_
     simp only [ax,Act.put,sA,gs0,gs1,Nat.zero_add,Nat.reduceAdd]
     refine aJ (.agg #[xh (aV u 64),xh (bh u 64)]) (fun vs w9 xj hB K9 xk=>?_) ?_
     ·obtain ⟨⟨a9,b9,xl⟩,xD,xG⟩:=xj
      have q0:w9.cell? ⟨ge,0,none⟩=some (xh (aV u 64)):=xD.cell 0
      have q1:w9.cell? ⟨ge,1,none⟩=some (xh (bh u 64)):=xD.cell 1
      go_simp
      exact xk _ _ rfl ⟨⟨a9,b9,xl⟩,xD,xG⟩ id
     refine aJ (.agg #[xh (aV u 64),xh (bh u 64)]) (fun vs w9 xj hB K9 xk=>?_) ?_
     ·obtain ⟨⟨a9,b9,xl⟩,xD,xG⟩:=xj
      have q0:w9.cell? ⟨ge,0,none⟩=some (xh (aV u 64)):=xD.cell 0
      have q1:w9.cell? ⟨ge,1,none⟩=some (xh (bh u 64)):=xD.cell 1
      go_simp
      exact xk _ _ rfl ⟨⟨a9,b9,xl⟩,xD,xG⟩ id
     refine aJ (.bool true) (fun vs w9 xj hB K9 xk=>?_) ?_
     ·have AG:=hB 1 _ kZ rfl
      simp only [AG] at xk ⊢
      obtain ⟨⟨a9,b9,xl⟩,xD,xG⟩:=xj
      go_simp
      refine (HG.out _).mono ?_
      rintro e8 w8 ⟨rfl,xm⟩
      exact xk _ _ rfl ⟨⟨a9,b9,xl.below xm xl.lt⟩,xD.below xm xD.lt,xG.trans (xm.mono xG.size)⟩ (fun h=>h.below xm h.lt)
     refine aJ (.bool true) (fun vs w9 xj hB K9 xk=>?_) ?_
     ·have AH:=hB 2 _ kZ rfl
      simp only [AH] at xk ⊢
      obtain ⟨⟨a9,b9,xl⟩,xD,xG⟩:=xj
      go_simp
      exact xk _ _ rfl ⟨⟨a9,b9,xl⟩,xD,xG⟩ id
     refine aJ (O U (k:Int)) (fun vs w9 xj hB K9 xk=>?_) ?_
     ·have yB:=hB 3 _ kZ rfl
      simp only [yB] at xk ⊢
      obtain ⟨⟨a9,b9,xl⟩,xD,xG⟩:=xj
      go_simp
      exact xk _ _ rfl ⟨⟨a9,b9,xl⟩,xD,xG⟩ id
     refine aJ (.agg #[xh (aV u 64),xh (bh u 64)]) (fun vs w9 xj hB K9 xk=>?_) ?_
     ·have yB:=hB 3 _ kZ rfl
      simp only [yB] at xk ⊢
      obtain ⟨⟨a9,b9,xl⟩,xD,xG⟩:=xj
      have q0:w9.cell? ⟨ge,0,none⟩=some (xh (aV u 64)):=xD.cell 0
      have q1:w9.cell? ⟨ge,1,none⟩=some (xh (bh u 64)):=xD.cell 1
      go_simp
      exact xk _ _ rfl ⟨⟨a9,b9,xl⟩,xD,xG⟩ id
     refine aJ (xh ln) (fun vs w9 xj hB K9 xk=>?_) ?_
     ·have yB:=hB 3 _ kZ rfl
      have Fs:=hB 4 _ kZ rfl
      have Ft:=hB 5 _ kZ rfl
      simp only [yB,Fs,Ft] at xk ⊢
      obtain ⟨⟨a9,b9,xl⟩,xD,xG⟩:=xj
      go_simp
      refine (BH.out _).mono ?_
      rintro e8 w8 ⟨rfl,xm⟩
      exact xk _ _ rfl ⟨⟨a9,b9,xl.below xm xl.lt⟩,xD.below xm xD.lt,xG.trans (xm.mono xG.size)⟩ (fun h=>h.below xm h.lt)
     refine aJ (xh s) (fun vs w9 xj hB K9 xk=>?_) ?_
     ·have yB:=hB 3 _ kZ rfl
      simp only [yB] at xk ⊢
      obtain ⟨⟨a9,b9,xl⟩,xD,xG⟩:=xj
      go_simp
      exact xk _ _ rfl ⟨⟨a9,b9,xl⟩,xD,xG⟩ id
     refine aJ (xh (s++⟨#[10]⟩)) (fun vs w9 xj hB K9 xk=>?_) ?_
     ·have yB:=hB 3 _ kZ rfl
      have Fu:=hB 7 _ kZ rfl
      simp only [yB,Fu] at xk ⊢
      obtain ⟨⟨a9,b9,xl⟩,xD,xG⟩:=xj
      go_simp
      (first | (rw [if_neg oM]; go_simp) | skip)
      exact xk _ _ rfl ⟨⟨a9,b9,xl⟩,xD,xG⟩ id
     refine aJ (.bool true) (fun vs w9 xj hB K9 xk=>?_) ?_
     ·have yB:=hB 3 _ kZ rfl
      have Fv:=hB 6 _ kZ rfl
      have Kk:=hB 8 _ kZ rfl
      simp only [yB,Fv,Kk] at xk ⊢
      obtain ⟨⟨a9,b9,xl⟩,xD,xG⟩:=xj
      have hq:=Kj.out
      go_simp
      exact xk _ _ rfl ⟨⟨a9,b9,xl⟩,xD,xG⟩ id
     refine aJ (.bool true) (fun vs w9 xj hB K9 xk=>?_) ?_
     ·have yB:=hB 3 _ kZ rfl
      have Kl:=hB 9 _ kZ rfl
      simp only [yB,Kl] at xk ⊢
      obtain ⟨⟨a9,b9,xl⟩,xD,xG⟩:=xj
      go_simp
      exact xk _ _ rfl ⟨⟨a9,b9,xl⟩,xD,xG⟩ id
     refine jF (fun _ W9=>ai W9 g 62 [xh (aV u 64),xh (bh u 64)]) (fun _ _ _ h hT=>hT h) (fun vs w9 xj hB K9 xk=>?_) ?_
     ·have Bb:=hB 0 _ kZ rfl
      simp only [Bb] at xk ⊢
      obtain ⟨⟨a9,b9,xl⟩,xD,xG⟩:=xj
      have q0:w9.cell? ⟨g,0,none⟩=some (xh a9):=xl.cell 0
      have q1:w9.cell? ⟨g,1,none⟩=some (xh b9):=xl.cell 1
      obtain ⟨f0,f1⟩:=frz2 xl
      have hS:ai ((w9.setCell ⟨g,0,none⟩ (xh (aV u 64))).setCell ⟨g,1,none⟩ (xh (bh u 64))) g 62 [xh (aV u 64),xh (bh u 64)]:=(xl.set 0 (xh (aV u 64))).set 1 (xh (bh u 64))
      have hN:ai ((w9.setCell ⟨g,0,none⟩ (xh (aV u 64))).setCell ⟨g,1,none⟩ (xh (bh u 64))) ge 62 [xh (aV u 64),xh (bh u 64)]:=(xD.other (p:=⟨g,0,none⟩) (Ne.symm xw) _).other (p:=⟨g,1,none⟩) (Ne.symm xw) _
      have hW:=(xG.setCell (p:=⟨g,0,none⟩) AL (xh (aV u 64))).setCell (p:=⟨g,1,none⟩) AL (xh (bh u 64))
      go_simp
      exact xk _ undef _ rfl hS ⟨⟨_,_,hS⟩,hN,hW⟩ (fun _=>hS)
     refine aJ (.bool true) (fun vs w9 xj hB K9 xk=>?_) ?_
     ·have hd10:=hB 10 _ kZ rfl
      simp only [hd10] at xk ⊢
      obtain ⟨⟨a9,b9,xl⟩,xD,xG⟩:=xj
      go_simp
      exact xk _ _ rfl ⟨⟨a9,b9,xl⟩,xD,xG⟩ id
     refine ke fun vs W9 xj hB=>?_
     have hv12:=hB 12 _ rfl
     have hS:=hB 11 _ rfl
     obtain ⟨_,_,xG⟩:=xj
     simp only [hv12]
     obtain ⟨c0,c1⟩:=cells2 hS
     clear hS hB hv12
     go_wp2_with fail
     refine bodyPost_ret (v:=.tuple #[.agg #[xh (aV u 64),xh (bh u 64)],.bool true]) (by simp [results,Tryz.results128,go_sem, *]) rfl ⟨aV u 64,bh u 64,true,rfl,.inl ⟨rfl,HD.out⟩,xG⟩
    ·have HD:Hid (dZ k (bl s)=none):=by rw [Hid,yv,if_neg (fun h=>zW h.2)]
     have Kj:Hid ((ln.toList == (s++⟨#[10]⟩ : ByteArray).toList)=false):=by rw [Hid,lT]; exact jE (fun h=>zW (by rw [← Du,h,dw]; rfl))
     clear AC hsplit CW za yv xq zW Bv Du
     go_enter Tryz.func128,Tryz.ntmps128
     go_wp2_with fail
     generalize w.alloc (.cells #[xh ⟨#[]⟩,xh ⟨#[]⟩] 62)=W at b1 L1 ⊢
     generalize hg:w.heap.size=g at L1 ⊢
     refine (HN.out _).mono ?_
     rintro e w2 ⟨rfl,xn⟩
     go_wp2_with fail
     refine (Dt.out _).mono ?_
     rintro e w3 ⟨A3,c3,rfl,xN,xB⟩
     obtain ⟨g3,rfl,x0,hg3,hg3'⟩:=yj.out _ _ _ _ xN
     have yq:=av xn xB
     have L3:=L1.below yq L1.lt
     clear xN
     go_wp2_with fail
     rw [← HU.out]
     refine (Hh.out _).mono ?_
     rintro e w4 ⟨A4,c4,rfl,xL,xy⟩
     obtain ⟨g4,rfl,x1,yb,hg4'⟩:=zx.out _ _ _ _ xL
     have hb14:=av yq xy
     have L4:=L3.below xy L3.lt
     clear xL
     have Lz:((aV u 64).size:Int)+1≤(u.size:Int):=oM
     go_wp2_with fail
     rw [HR.out]
     have N5:=ai.new w4 62 #[xh (aV u 64),xh (bh u 64)]
     have L5:=L4.alloc (.cells #[xh (aV u 64),xh (bh u 64)] 62)
     have hb5:=(av b1 hb14).trans ((Below.refl w.heap.size w4).alloc (by have:=(av b1 hb14).size; omega) (.cells #[xh (aV u 64),xh (bh u 64)] 62))
     generalize w4.alloc (.cells #[xh (aV u 64),xh (bh u 64)] 62)=W5 at N5 L5 hb5 ⊢
     have xw:g ≠ w4.heap.size:=by have:=L4.lt; omega
     generalize w4.heap.size=ge at N5 xw ⊢
     have AL:w.heap.size≤g:=oM
     clear L1 L3 L4 x0 x1
     refine hH (fun W9=>(∃ a b,ai W9 g 62 [xh a,xh b])∧ai W9 ge 62 [xh (aV u 64),xh (bh u 64)]∧Below w.heap.size w W9) (fun W8 W9=>ai W8 g 62 [xh (aV u 64),xh (bh u 64)]→ai W9 g 62 [xh (aV u 64),xh (bh u 64)]) kZ kZ kZ ⟨⟨_,_,L5.below jB.drew L5.lt⟩,N5.below jB.drew N5.lt,hb5.drew⟩ ?_
     simp only [ax,Act.put,sA,gs0,gs1,Nat.zero_add,Nat.reduceAdd]
     refine aJ (.agg #[xh (aV u 64),xh (bh u 64)]) (fun vs w9 xj hB K9 xk=>?_) ?_
     ·obtain ⟨⟨a9,b9,xl⟩,xD,xG⟩:=xj
      have q0:w9.cell? ⟨ge,0,none⟩=some (xh (aV u 64)):=xD.cell 0
      have q1:w9.cell? ⟨ge,1,none⟩=some (xh (bh u 64)):=xD.cell 1
      go_simp
      exact xk _ _ rfl ⟨⟨a9,b9,xl⟩,xD,xG⟩ id
     refine aJ (.agg #[xh (aV u 64),xh (bh u 64)]) (fun vs w9 xj hB K9 xk=>?_) ?_
     ·obtain ⟨⟨a9,b9,xl⟩,xD,xG⟩:=xj
      have q0:w9.cell? ⟨ge,0,none⟩=some (xh (aV u 64)):=xD.cell 0
      have q1:w9.cell? ⟨ge,1,none⟩=some (xh (bh u 64)):=xD.cell 1
      go_simp
      exact xk _ _ rfl ⟨⟨a9,b9,xl⟩,xD,xG⟩ id
     refine aJ (.bool true) (fun vs w9 xj hB K9 xk=>?_) ?_
     ·have AG:=hB 1 _ kZ rfl
      simp only [AG] at xk ⊢
      obtain ⟨⟨a9,b9,xl⟩,xD,xG⟩:=xj
      go_simp
      refine (HG.out _).mono ?_
      rintro e8 w8 ⟨rfl,xm⟩
      exact xk _ _ rfl ⟨⟨a9,b9,xl.below xm xl.lt⟩,xD.below xm xD.lt,xG.trans (xm.mono xG.size)⟩ (fun h=>h.below xm h.lt)
     refine aJ (.bool true) (fun vs w9 xj hB K9 xk=>?_) ?_
     ·have AH:=hB 2 _ kZ rfl
      simp only [AH] at xk ⊢
      obtain ⟨⟨a9,b9,xl⟩,xD,xG⟩:=xj
      go_simp
      exact xk _ _ rfl ⟨⟨a9,b9,xl⟩,xD,xG⟩ id
     refine aJ (O U (k:Int)) (fun vs w9 xj hB K9 xk=>?_) ?_
     ·have yB:=hB 3 _ kZ rfl
      simp only [yB] at xk ⊢
      obtain ⟨⟨a9,b9,xl⟩,xD,xG⟩:=xj
      go_simp
      exact xk _ _ rfl ⟨⟨a9,b9,xl⟩,xD,xG⟩ id
     refine aJ (.agg #[xh (aV u 64),xh (bh u 64)]) (fun vs w9 xj hB K9 xk=>?_) ?_
     ·have yB:=hB 3 _ kZ rfl
      simp only [yB] at xk ⊢
      obtain ⟨⟨a9,b9,xl⟩,xD,xG⟩:=xj
      have q0:w9.cell? ⟨ge,0,none⟩=some (xh (aV u 64)):=xD.cell 0
      have q1:w9.cell? ⟨ge,1,none⟩=some (xh (bh u 64)):=xD.cell 1
      go_simp
      exact xk _ _ rfl ⟨⟨a9,b9,xl⟩,xD,xG⟩ id
     refine aJ (xh ln) (fun vs w9 xj hB K9 xk=>?_) ?_
     ·have yB:=hB 3 _ kZ rfl
      have Fs:=hB 4 _ kZ rfl
      have Ft:=hB 5 _ kZ rfl
      simp only [yB,Fs,Ft] at xk ⊢
      obtain ⟨⟨a9,b9,xl⟩,xD,xG⟩:=xj
      go_simp
      refine (BH.out _).mono ?_
      rintro e8 w8 ⟨rfl,xm⟩
      exact xk _ _ rfl ⟨⟨a9,b9,xl.below xm xl.lt⟩,xD.below xm xD.lt,xG.trans (xm.mono xG.size)⟩ (fun h=>h.below xm h.lt)
     refine aJ (xh s) (fun vs w9 xj hB K9 xk=>?_) ?_
     ·have yB:=hB 3 _ kZ rfl
      simp only [yB] at xk ⊢
      obtain ⟨⟨a9,b9,xl⟩,xD,xG⟩:=xj
      go_simp
      exact xk _ _ rfl ⟨⟨a9,b9,xl⟩,xD,xG⟩ id
     refine aJ (xh (s++⟨#[10]⟩)) (fun vs w9 xj hB K9 xk=>?_) ?_
     ·have yB:=hB 3 _ kZ rfl
      have Fu:=hB 7 _ kZ rfl
      simp only [yB,Fu] at xk ⊢
      obtain ⟨⟨a9,b9,xl⟩,xD,xG⟩:=xj
      go_simp
      (first | (rw [if_neg oM]; go_simp) | skip)
      exact xk _ _ rfl ⟨⟨a9,b9,xl⟩,xD,xG⟩ id
     refine aJ (.bool false) (fun vs w9 xj hB K9 xk=>?_) ?_
     ·have yB:=hB 3 _ kZ rfl
      have Fv:=hB 6 _ kZ rfl
      have Kk:=hB 8 _ kZ rfl
      simp only [yB,Fv,Kk] at xk ⊢
      obtain ⟨⟨a9,b9,xl⟩,xD,xG⟩:=xj
      have hq:=Kj.out
      go_simp
      exact xk _ _ rfl ⟨⟨a9,b9,xl⟩,xD,xG⟩ id
     refine aJ (.bool false) (fun vs w9 xj hB K9 xk=>?_) ?_
     ·have yB:=hB 3 _ kZ rfl
      have Kl:=hB 9 _ kZ rfl
      simp only [yB,Kl] at xk ⊢
      obtain ⟨⟨a9,b9,xl⟩,xD,xG⟩:=xj
      go_simp
      exact xk _ _ rfl ⟨⟨a9,b9,xl⟩,xD,xG⟩ id
     refine jF (fun _ W9=>ai W9 g 62 [xh (aV u 64),xh (bh u 64)]) (fun _ _ _ h hT=>hT h) (fun vs w9 xj hB K9 xk=>?_) ?_
     ·have Bb:=hB 0 _ kZ rfl
      simp only [Bb] at xk ⊢
      obtain ⟨⟨a9,b9,xl⟩,xD,xG⟩:=xj
      have q0:w9.cell? ⟨g,0,none⟩=some (xh a9):=xl.cell 0
      have q1:w9.cell? ⟨g,1,none⟩=some (xh b9):=xl.cell 1
      obtain ⟨f0,f1⟩:=frz2 xl
      have hS:ai ((w9.setCell ⟨g,0,none⟩ (xh (aV u 64))).setCell ⟨g,1,none⟩ (xh (bh u 64))) g 62 [xh (aV u 64),xh (bh u 64)]:=(xl.set 0 (xh (aV u 64))).set 1 (xh (bh u 64))
      have hN:ai ((w9.setCell ⟨g,0,none⟩ (xh (aV u 64))).setCell ⟨g,1,none⟩ (xh (bh u 64))) ge 62 [xh (aV u 64),xh (bh u 64)]:=(xD.other (p:=⟨g,0,none⟩) (Ne.symm xw) _).other (p:=⟨g,1,none⟩) (Ne.symm xw) _
      have hW:=(xG.setCell (p:=⟨g,0,none⟩) AL (xh (aV u 64))).setCell (p:=⟨g,1,none⟩) AL (xh (bh u 64))
      go_simp
      exact xk _ undef _ rfl hS ⟨⟨_,_,hS⟩,hN,hW⟩ (fun _=>hS)
     refine aJ (.bool false) (fun vs w9 xj hB K9 xk=>?_) ?_
     ·have hd10:=hB 10 _ kZ rfl
      simp only [hd10] at xk ⊢
      obtain ⟨⟨a9,b9,xl⟩,xD,xG⟩:=xj
      go_simp
      exact xk _ _ rfl ⟨⟨a9,b9,xl⟩,xD,xG⟩ id
     refine ke fun vs W9 xj hB=>?_
     have hv12:=hB 12 _ rfl
     have hS:=hB 11 _ rfl
     obtain ⟨_,_,xG⟩:=xj
     simp only [hv12]
     obtain ⟨c0,c1⟩:=cells2 hS
     clear hS hB hv12
     go_wp2_with fail
     refine bodyPost_ret (v:=.tuple #[.agg #[xh (aV u 64),xh (bh u 64)],.bool false]) (by simp [results,Tryz.results128,go_sem, *]) rfl ⟨aV u 64,bh u 64,false,rfl,.inr ⟨rfl,HD.out⟩,xG⟩
  ·have HD:Hid (dZ k (bl s)=none):=rn (by rw [← za]; exact hsplit) hat
   have LA:(aV u 64).size=u.size:=by unfold aV; rw [← ao,bO,← ao]; exact uu.2 hat
   have d3:(((aV u 64).size:Int) == (u.size:Int))=true:=by rw [LA]; simp
   clear AC hsplit CW hat za LA
   go_enter Tryz.func128,Tryz.ntmps128
   go_wp2_with fail
   generalize w.alloc (.cells #[xh ⟨#[]⟩,xh ⟨#[]⟩] 62)=W at b1 L1 ⊢
   generalize hg:w.heap.size=g at L1 ⊢
   refine (HN.out _).mono ?_
   rintro e w2 ⟨rfl,xn⟩
   go_wp2_with fail
   refine (Dt.out _).mono ?_
   rintro e w3 ⟨A3,c3,rfl,xN,xB⟩
   obtain ⟨g3,rfl,x0,hg3,hg3'⟩:=yj.out _ _ _ _ xN
   have yq:=av xn xB
   have L3:=L1.below yq L1.lt
   clear xN
   go_wp2_with fail
   rw [← HU.out]
   refine (Hh.out _).mono ?_
   rintro e w4 ⟨A4,c4,rfl,xL,xy⟩
   obtain ⟨g4,rfl,x1,yb,hg4'⟩:=zx.out _ _ _ _ xL
   have hb14:=av yq xy
   have L4:=L3.below xy L3.lt
   clear xL
   have c0:=L4.cell 0
   have c1:=L4.cell 1
   obtain ⟨f0,f1⟩:=frz2 L4
   have AB:=L4.lt
   simp only [gz0,gz1] at c0 c1
   clear L1 L4
   go_wp2_with fail
   refine bodyPost_ret (v:=.tuple #[.agg #[xh ⟨#[]⟩,xh ⟨#[]⟩],.bool false]) (by simp [results,Tryz.results128,go_sem, *]) rfl ⟨⟨#[]⟩,⟨#[]⟩,false,rfl,.inr ⟨rfl,HD.out⟩, ?_⟩
   rw [← hg] at *
   exact (av b1 hb14).trans (by repeat (first | exact Below.refl _ _ | refine Below.alloc ?_ (by simp; have:=b1.size; have:=hb14.size; omega) _ | refine Below.setCell ?_ sP _))
 ·have HD:Hid (dZ k (bl s)=none):=qm (by rw [← za]; exact AC)
  by_cases xY:x.size < p.size
  ·have d1:decide ((x.size:Int) < (t.size:Int)+1)=true:=jD oM
   clear AC za hp xY
   go_enter Tryz.func128,Tryz.ntmps128
   go_wp2_with fail
   generalize w.alloc (.cells #[xh ⟨#[]⟩,xh ⟨#[]⟩] 62)=W at b1 L1 ⊢
   generalize hg:w.heap.size=g at L1 ⊢
   refine (HN.out _).mono ?_
   rintro e w2 ⟨rfl,xn⟩
   go_wp2_with fail
   refine (Dt.out _).mono ?_
   rintro e w3 ⟨A3,c3,rfl,xN,xB⟩
   obtain ⟨g3,rfl,x0,hg3,hg3'⟩:=yj.out _ _ _ _ xN
   have yq:=av xn xB
   have L3:=L1.below yq L1.lt
   clear xN
   have c0:=L3.cell 0
   have c1:=L3.cell 1
   obtain ⟨f0,f1⟩:=frz2 L3
   have AB:=L3.lt
   simp only [gz0,gz1] at c0 c1
   clear L1 L3
   go_wp2_with fail
   refine bodyPost_ret (v:=.tuple #[.agg #[xh ⟨#[]⟩,xh ⟨#[]⟩],.bool false]) (by simp [results,Tryz.results128,go_sem, *]) rfl ⟨⟨#[]⟩,⟨#[]⟩,false,rfl,.inr ⟨rfl,HD.out⟩, ?_⟩
   rw [← hg] at *
   exact (av b1 yq).trans (by repeat (first | exact Below.refl _ _ | refine Below.alloc ?_ (by simp; have:=b1.size; have:=yq.size; omega) _ | refine Below.setCell ?_ sP _))
  ·have d1:decide ((x.size:Int) < (t.size:Int)+1)=false:=jE oM
   have d2:((x.extract 0 (t.size+1)).toList == (t++⟨#[32]⟩).toList)=false:=by
    rw [lT]; refine jE fun e=>AC ?_
    rw [BY.out,bH,List.drop_zero] at e
    rw [← e]; exact List.take_prefix _ _
   have i1:(t.size:Int)+1≤(x.size:Int):=oM
   clear AC za hp xY
   go_enter Tryz.func128,Tryz.ntmps128
   go_wp2_with fail
   generalize w.alloc (.cells #[xh ⟨#[]⟩,xh ⟨#[]⟩] 62)=W at b1 L1 ⊢
   generalize hg:w.heap.size=g at L1 ⊢
   refine (HN.out _).mono ?_
   rintro e w2 ⟨rfl,xn⟩
   go_wp2_with fail
   refine (Dt.out _).mono ?_
   rintro e w3 ⟨A3,c3,rfl,xN,xB⟩
   obtain ⟨g3,rfl,x0,hg3,hg3'⟩:=yj.out _ _ _ _ xN
   have yq:=av xn xB
   have L3:=L1.below yq L1.lt
   clear xN
   have c0:=L3.cell 0
   have c1:=L3.cell 1
   obtain ⟨f0,f1⟩:=frz2 L3
   have AB:=L3.lt
   simp only [gz0,gz1] at c0 c1
   clear L1 L3
   go_wp2_with fail
   refine bodyPost_ret (v:=.tuple #[.agg #[xh ⟨#[]⟩,xh ⟨#[]⟩],.bool false]) (by simp [results,Tryz.results128,go_sem, *]) rfl ⟨⟨#[]⟩,⟨#[]⟩,false,rfl,.inr ⟨rfl,HD.out⟩, ?_⟩
   rw [← hg] at *
   exact (av b1 yq).trans (by repeat (first | exact Below.refl _ _ | refine Below.alloc ?_ (by simp; have:=b1.size; have:=yq.size; omega) _ | refine Below.setCell ?_ sP _))
theorem tX:(xi.info? 62).map (fun i=>(i.zero,i.size,i.bytes))=some (some (.agg #[xh ⟨#[]⟩,xh ⟨#[]⟩]),2,32):=kZ
theorem i8:(xi.info? 3).map (fun i=>(i.zero,i.size,i.bytes))=some (some (O U 0),1,8):=kZ
def dV (l:List ((List UInt8 × List UInt8) × Nat)) (m:List dj):Prop:=m.map (fun r=>(bl r.c,bl r.r))=l.map (·.1)
theorem gH {l:List ((List UInt8 × List UInt8) × Nat)} {m:List dj} (h:dV l m):m.length=l.length:=by
 have:=congrArg List.length h; simpa using this
def uz (l:List Nat):List Value:=l.map fun (n:Nat)=>Value.int .i64 (n:Int)
def jt (s:ByteArray) (w:World) (e:Ending) (w' : World):Prop:=∃ A c A' c' m,e=.returned (.tuple #[F A m.length c,F A' (m.length+1) c'])∧dV (aF 60 0 (bl s)) m ∧
 w'.ownsRow w.heap.size 62 2 (F A m.length c) m.length (m.flatMap dj.enc)∧w'.ownsRow w.heap.size 3 1 (F A' (m.length+1) c') (m.length+1) (uz (er 0 (aF 60 0 (bl s))))∧Below w.heap.size w w'
set_option maxRecDepth 100000 in
theorem hU (s:ByteArray) (w:World) (hs:s.size≤3000000) (ht:jj w) :
  Calls xi 68 #[xh s] w (jt s w):=by
 have b0:=bZ w (.cells #[O U 0] 3)
 have L0:=ai.new w 3 #[O U 0]
 have E0:Hid ((w.alloc (.cells #[O U 0] 3)).ownsRow w.heap.size 3 1 (F (some ⟨w.heap.size,0,none⟩) 1 1) 1 (uz (er 0 []))):=L0.own nR sP (by unfold maxLen; omega)
 have xw:62 ≠ 3:=dD
 go_enter Tryz.func68,Tryz.ntmps68
 go_wp2
 have HZ:Hid (aF 60 0 (bl s) = []++aF (60 - 0) 0 ((bl s).drop 0)):=rfl
 go_loopw [4,5,6,7,8,9] (fun r en at' _ _ _ wr=>∃ (a:Nat) (A:Option Addr) (c:Nat) (A' : Option Addr) (c' : Nat) (m:List dj) (acc:List ((List UInt8 × List UInt8) × Nat)),m.length≤60∧a≤s.size∧r=F A m.length c∧en=F A' (m.length+1) c'∧at'=O U a∧(∃ q:aq w.heap.size w,wr=q.val) ∧
  Hid (dV acc m)∧Hid (ck acc=a)∧Hid (aF 60 0 (bl s)=acc++aF (60 - m.length) m.length ((bl s).drop a))∧Hid (wr.ownsRow w.heap.size 62 2 (F A m.length c) m.length (m.flatMap dj.enc))∧Hid (wr.ownsRow w.heap.size 3 1 (F A' (m.length+1) c') (m.length+1) (uz (er 0 acc)))) (fun r _ _ _ _ _ _=>60 - lenOf r)
 case atStart=>exact ⟨0,none,0,some ⟨w.heap.size,0,none⟩,1,[],[],sP,Nat.zero_le _,rfl,rfl,rfl,⟨⟨_,b0⟩,rfl⟩,rfl,rfl,HZ,World.ownsRow_nil _ _ _ _,E0⟩
 case round =>
  obtain ⟨a,A,c,A',c',m,acc,hm,ha,rfl,rfl,rfl,⟨q,rfl⟩,HA,HL,HF,HR,HE⟩:=hrel
  have DONE:aF (60 - m.length) m.length ((bl s).drop a) = []→∀ W',Below q.val.heap.size q.val W'→jt s w (.returned (.tuple #[F A m.length c,F A' (m.length+1) c'])) W':=fun h W' hb=>by
   have h1:=HF.out
   rw [h,List.append_nil] at h1
   exact ⟨A,c,A',c',m,rfl,by rw [h1]; exact HA.out,ac HR.out hb,by rw [h1]; exact ac HE.out hb,(q.go nR hb).below⟩
  by_cases xu:m.length < 60
  ·obtain ⟨n,hn⟩ : ∃ n,60 - m.length=n+1:=⟨59 - m.length,oM⟩
   obtain ⟨x,hx⟩ : ∃ x:ByteArray,x=s.extract a s.size:=⟨_,rfl⟩
   have za:bl x=(bl s).drop a:=by rw [hx,bH,List.take_of_length_le (by rw [ao]; exact Nat.le_refl _)]
   have HI:Hid (∀ W,Calls xi 122 #[xh (s.extract a s.size),.int .u8 10] W fun e w'=>e=.returned (O U (Lib.indexByte (bl x) 10))∧w'=W):=fun W=>by rw [← hx]; exact Tryz.strings_IndexByte x 10 W
   rw [hn] at DONE HF
   rw [← za] at DONE HF
   have i1:(a:Int)≤(s.size:Int):=oM
   rcases ov (bl x) 10 with ⟨h1,h2⟩ | ⟨h1,h2⟩
   ·rw [h2] at HI
    have HD:=jZ (DONE (dB h1) _ jB)
    clear DONE h1 h2 hx za hn
    go_wp2_with (go_at_call 122; refine (HI.out _).mono ?_; rintro e w' ⟨rfl,rfl⟩)
    go_ret2
    exact HD.out
   ·rw [h2] at HI
    have hp:=congrArg List.length (db h1)
    have Ay:(bl x).length=s.size - a:=by rw [za,List.length_drop,ao]
    simp only [List.length_append,List.length_cons,List.length_drop,Ay] at hp
    have hparts:=db h1
    obtain ⟨d,hd⟩ : ∃ d,d=(cJ 10 (bl x)).length:=⟨_,rfl⟩
    rw [← hd] at HI hp
    have LB:a+d+1≤s.size:=oM
    obtain ⟨y,hy⟩ : ∃ y:ByteArray,y=s.extract a (a+d):=⟨_,rfl⟩
    have Be:bl y=cJ 10 (bl x):=by
     rw [hy,bH,List.drop_take,Nat.add_sub_cancel_left,← za,hd,oe]
    have EM:y.size≤3000000:=by rw [← ao,Be,← hd]; omega
    have Hi:Hid (∀ W,jj W→Calls xi 123 #[O U (m.length:Int),xh (s.extract a (a+d))] W (ow m.length y W)):=fun W hW=>by
     rw [← hy]; exact mx m.length y W oM EM hW
    have Fw:Hid (dZ m.length (bl y)=none→∀ W',Below q.val.heap.size q.val W'→jt s w (.returned (.tuple #[F A m.length c,F A' (m.length+1) c'])) W'):=fun h=>DONE (dH (by rw [← Be]; exact h))
    have Dv:Hid (∀ ra rb,dZ m.length (bl y)=some (ra,rb)→aF 60 0 (bl s)=(acc++[((ra,rb),d+1)])++aF (60 - (m.length+1)) (m.length+1) ((bl s).drop (a+(d+1)))):=fun ra rb h=>by
     have e1:=cl (n:=n) h1 (by rw [← Be]; exact h)
     have e2:60 - (m.length+1)=n:=oM
     rw [HF.out,e1,e2,← hd,za,List.drop_drop]
     simp
    have i2:(0:Int)≤(d:Int):=oM
    have i3:(a:Int)+(d:Int)≤(s.size:Int):=oM
    have i4:(a:Int)+((d:Int)+1)≤(s.size:Int):=oM
    have MW:=ht.at q
    clear DONE h1 h2 hx za hn hp Ay hparts hd hy Be
    go_wp2_with (go_at_call 122; refine (HI.out _).mono ?_; rintro e w' ⟨rfl,rfl⟩)
    refine (Hi.out _ MW).mono ?_
    rintro e w3 ⟨ra,rb,ok,rfl,yv,xB⟩
    cases ok
    ·have HD:=jZ (Fw.out (by rcases yv with ⟨h,_⟩ | ⟨_,h⟩; cases h; exact h) _ (xB.alloc xB.size (.cells #[xh ra,xh rb] 62)))
     clear yv
     go_wp2_with fail
     go_ret2
     exact HD.out
    ·have hdec' : dZ m.length (bl y)=some (bl ra,bl rb):=by rcases yv with ⟨_,h⟩ | ⟨h,_⟩; exact h; cases h
     have Cp:=jZ (Dv.out _ _ hdec')
     clear yv hdec'
     have b4:=xB.alloc xB.size (.cells #[xh ra,xh rb] 62)
     have Hj:=jZ (ac HR.out b4)
     have MX:=jZ (ac HE.out b4)
     have DW:=q.size
     have Ep:w.heap.size≤(w3.alloc (.cells #[xh ra,xh rb] 62)).heap.size:=jT DW b4.size
     go_wp2_with (first
      | (at_builtin; refine cw (w0:=w3.alloc (.cells #[xh ra,xh rb] 62)) rfl (.tmp 38) (.tmp 40) 58 rfl 62 _ 2 32 Tryz.underlying58 tX rfl (by omega) (by omega) w.heap.size _ _ _ rfl Hj #[xh ra,xh rb] 1 _ rfl (by first | rfl | simp | exact Array.size_push _) rfl (by simp [Value.oneCell']) (by omega) Ep rfl rfl rfl rfl ?_; intro v5 w5 AR y5 hb5; have LC:=Lib.hid (fi MX.out Hj.out xw y5); have Km:w.heap.size≤w5.heap.size:=Nat.le_trans Ep y5.size)
      | (at_builtin; refine cw (w0:=w5) rfl (.tmp 42) (.tmp 44) 100 rfl 3 (O U 0) 1 8 Tryz.underlying100 i8 rfl (by omega) (by omega) w.heap.size _ _ _ rfl LC #[O U ((a:Int)+((d:Int)+1))] 1 _ rfl (by first | rfl | simp | exact Array.size_push _) rfl (by simp [Value.oneCell']) (by omega) Km rfl rfl rfl rfl ?_; intro v6 w6 Dw zo xT))
     have MY:=jZ (fi AR.out LC.out xw.symm zo)
     obtain ⟨A5,c5,Aw⟩:=az AR.out
     subst Aw
     obtain ⟨A6,c6,Hk⟩:=az Dw.out
     subst Hk
     go_roundw
     case rel =>
      refine ⟨a+(d+1),A5,c5,A6,c6,m++[⟨ra,rb⟩],acc++[((bl ra,bl rb),d+1)],by simp; omega,oM,sP,sP,by go_num,⟨((q.go nR b4).go' hb5).go' xT,rfl⟩, ?_, ?_, ?_, ?_, ?_⟩
      ·have h1:=HA.out; unfold dV at h1; unfold dV Hid; simp [h1]
      ·have h1:=HL.out; unfold Hid; rw [← h1]; simp [ck]
      ·have h1:=Cp.out; rw [Hid]; simpa using h1
      ·have h1:=MY.out; rw [Hid]; simpa [dj.enc] using h1
      ·have h1:=Dw.out; rw [Hid,om,HL.out]; simpa [uz] using h1
     case measure=>simp [lenOf]; omega
  ·have HD:Hid (jt s w (.returned (.tuple #[F A m.length c,F A' (m.length+1) c'])) q.val):=DONE (by rw [show 60 - m.length=0 by omega]; rfl) _ jB
   clear DONE
   go_wp2
   go_ret2
   exact HD.out
def iq (s:ByteArray) (w:World) (e:Ending) (w' : World):Prop:=∃ A c m,e=.returned (.tuple #[.slice A m.length c,.int .i64 (ck (aF 60 0 (bl s)):Nat)])∧dV (aF 60 0 (bl s)) m ∧
 w'.ownsRow w.heap.size 62 2 (.slice A m.length c) m.length (m.flatMap dj.enc)∧Below w.heap.size w w'
theorem uA (x:ByteArray) (b:UInt8) (n:Nat) (hn:n=(aH b (bl x)).length):Hid (∀ (W:World) (B:Nat) (A:Option Addr) (c:Nat),W.ownsRow B 9 1 (.slice A n c) n (ex (aH b (bl x)))→∃ g,A=some ⟨g,0,none⟩∧W.cell? ⟨g,0,none⟩=some (.string (aV x b))∧B≤g∧g < W.heap.size):=fun W B A c h=>by
 subst hn; exact kq h
set_option maxRecDepth 100000 in
theorem kr (s:ByteArray) (w:World) (hs:s.size≤1000000) :
  Calls xi 77 #[.string s] w (iq s w):=by
 have b0:=bZ w (.cells #[] 62)
 have O0:Hid ((w.alloc (.cells #[] 62)).ownsRow w.heap.size 62 2 (.slice (some ⟨w.heap.size,0,none⟩) 0 0) 0 (([] : List dj).flatMap dj.enc)):=dI (ai.new w 62 #[]) nR
 go_enter Tryz.func77,Tryz.ntmps77
 go_wp2
 have HZ:Hid (aF 60 0 (bl s) = []++aF (60 - 0) 0 ((bl s).drop 0)):=rfl
 go_loopw [4,5,6,7,8] (fun r at' _ _ _ wr=>∃ (a:Nat) (A:Option Addr) (c:Nat) (m:List dj) (acc:List ((List UInt8 × List UInt8) × Nat)),m.length≤60∧a≤s.size∧r=.slice A m.length c∧at'=.int .i64 a∧(∃ q:aq w.heap.size w,wr=q.val) ∧
  Hid (dV acc m)∧Hid (ck acc=a)∧Hid (aF 60 0 (bl s)=acc++aF (60 - m.length) m.length ((bl s).drop a))∧Hid (wr.ownsRow w.heap.size 62 2 (.slice A m.length c) m.length (m.flatMap dj.enc))) (fun r _ _ _ _ _=>60 - lenOf r)
 case atStart=>exact ⟨0,some ⟨w.heap.size,0,none⟩,0,[],[],sP,Nat.zero_le _,rfl,rfl,⟨⟨_,b0⟩,rfl⟩,rfl,rfl,HZ,O0⟩
 case round =>
  obtain ⟨a,A,c,m,acc,hm,ha,rfl,rfl,⟨q,rfl⟩,HA,HL,HF,HR⟩:=hrel
  have DONE:aF (60 - m.length) m.length ((bl s).drop a) = []→∀ W',Below q.val.heap.size q.val W'→iq s w (.returned (.tuple #[.slice A m.length c,.int .i64 (a:Nat)])) W':=fun h W' hb=>by
   have h1:=HF.out
   rw [h,List.append_nil] at h1
   exact ⟨A,c,m,by rw [h1,HL.out],by rw [h1]; exact HA.out,ac HR.out hb,(q.go nR hb).below⟩
  by_cases xu:a < s.size
  ·by_cases hm60:m.length < 60
   ·obtain ⟨n,hn⟩ : ∃ n,60 - m.length=n+1:=⟨59 - m.length,oM⟩
    obtain ⟨x,hx⟩ : ∃ x:ByteArray,x=s.extract a s.size:=⟨_,rfl⟩
    have za:bl x=(bl s).drop a:=by rw [hx,bH,List.take_of_length_le (by rw [ao]; exact Nat.le_refl _)]
    have Ay:x.size≤1000000:=by rw [← ao,za,List.length_drop,ao]; omega
    have Dt:Hid (∀ W,Calls xi 58 #[.string (s.extract a s.size),.int .u8 10] W fun e w'=>∃ A c,e=.returned (.slice A (aH 10 (bl x)).length c)∧w'.ownsRow W.heap.size 9 1 (.slice A (aH 10 (bl x)).length c) (aH 10 (bl x)).length (ex (aH 10 (bl x)))∧Below W.heap.size W w'):=fun W=>by
     rw [← hx]; exact iZ x 10 W oM
    have EM:(aV x 10).size≤1000000:=by unfold aV; rw [← ao,bO]; have:=lP 10 (bl x); rw [ao] at this; omega
    have Gi:bl (aV x 10)=cJ 10 (bl x):=by unfold aV; rw [bO]
    have Eq:(aV x 10).size=(cJ 10 (bl x)).length:=by rw [← ao,Gi]
    obtain ⟨ps,Bg,Dx⟩:=gG 10 (bl x)
    have xt:(aH 10 (bl x)).length=ps.length+1:=by rw [Bg]; rfl
    have MZ:(aH 10 (bl x)).length≤1000001:=by have:=gF 10 (bl x) []; rw [ao] at this; unfold aH; omega
    obtain ⟨n0,zj⟩ : ∃ n,n=(aH 10 (bl x)).length:=⟨_,rfl⟩
    have yj:=uA x 10 n0 zj
    rw [← zj] at Dt xt MZ
    have Hi:=jZ (fun W=>rz m.length (aV x 10) W oM EM)
    rw [hn] at DONE HF
    rw [← za] at DONE HF
    have i1:(a:Int)≤(s.size:Int):=oM
    by_cases h1:(10:UInt8) ∈ bl x
    ·have Cs:2≤n0:=by
      rcases ps with _ | ⟨p,ps⟩
      ·exact absurd h1 (Dx.1 rfl)
      ·simp at xt; omega
     have hp:=congrArg List.length (db h1)
     have zU:(bl x).length=s.size - a:=by rw [za,List.length_drop,ao]
     simp only [List.length_append,List.length_cons,List.length_drop,zU,← Eq] at hp
     have LB:a+(aV x 10).size+1≤s.size:=oM
     obtain ⟨y,hy⟩ : ∃ y:ByteArray,y=aV x 10:=⟨_,rfl⟩
     rw [← hy] at Gi Eq EM Hi yj LB
     have Fw:Hid (dZ m.length (bl y)=none→∀ W',Below q.val.heap.size q.val W'→iq s w (.returned (.tuple #[.slice A m.length c,.int .i64 (a:Nat)])) W'):=fun h=>DONE (dH (by rw [← Gi]; exact h))
     have Dv:Hid (∀ ra rb,dZ m.length (bl y)=some (ra,rb)→aF 60 0 (bl s)=(acc++[((ra,rb),y.size+1)])++aF (60 - (m.length+1)) (m.length+1) ((bl s).drop (a+(y.size+1)))):=fun ra rb h=>by
      have e1:=cl (n:=n) h1 (by rw [← Gi]; exact h)
      have e2:60 - (m.length+1)=n:=oM
      rw [HF.out,e1,e2,← Eq,za,List.drop_drop]
      simp
     have i3:(a:Int)+(y.size:Int)+1≤(s.size:Int):=oM
     clear DONE h1 hx za hn hp zU Gi Eq hy Bg Dx xt zj
     go_wp2_with fail
     refine (Dt.out _).mono ?_
     rintro e w3 ⟨A3,c3,rfl,xN,xB⟩
     obtain ⟨g3,rfl,x0,hg3,hg3'⟩:=yj.out _ _ _ _ xN
     go_wp2_with fail
     refine (Hi.out _).mono ?_
     rintro e w4 ⟨ra,rb,ok,rfl,yv,xy⟩
     obtain ⟨_,yF,x4,_,_⟩:=yj.out _ _ _ _ (ac xN (xy.alloc xy.size (.cells #[.string ra,.string rb] 62)))
     injection yF with yF; injection yF with yF _; subst yF
     clear x0
     have CF:=av xB (xy.alloc xy.size (.cells #[.string ra,.string rb] 62))
     cases ok
     ·have HD:=jZ (Fw.out (by rcases yv with ⟨h,_⟩ | ⟨_,h⟩; cases h; exact h) _ CF)
      clear yv xN
      go_wp2_with fail
      go_ret2
      exact HD.out
     ·have hdec' : dZ m.length (bl y)=some (bl ra,bl rb):=by rcases yv with ⟨_,h⟩ | ⟨h,_⟩; exact h; cases h
      have Cp:=jZ (Dv.out _ _ hdec')
      clear yv hdec'
      have Hj:=jZ (ac HR.out CF)
      have Bw:=jZ (ac xN (xy.alloc xy.size (.cells #[.string ra,.string rb] 62)))
      clear xN
      have DW:=q.size
      have Ep:w.heap.size≤(w4.alloc (.cells #[.string ra,.string rb] 62)).heap.size:=jT DW CF.size
      go_wp2_with (at_builtin; refine cw (w0:=w4.alloc (.cells #[.string ra,.string rb] 62)) rfl (.tmp 39) (.tmp 41) 58 rfl 62 _ 2 32 Tryz.underlying58 tX rfl (by omega) (by omega) w.heap.size _ _ _ rfl Hj #[.string ra,.string rb] 1 _ rfl (by first | rfl | simp | exact Array.size_push _) rfl (by simp [Value.oneCell']) (by omega) Ep rfl rfl rfl rfl ?_; intro v5 w5 AR y5 hb5; obtain ⟨_,yF,x5,_,_⟩:=yj.out _ _ _ _ (fi Bw.out Hj.out (show (62:TypeId) ≠ 9 by decide) y5); injection yF with yF; injection yF with yF _; subst yF)
      obtain ⟨A5,c5,Aw⟩:=az AR.out
      subst Aw
      go_roundw
      case rel =>
       refine ⟨a+(y.size+1),A5,c5,m++[⟨ra,rb⟩],acc++[((bl ra,bl rb),y.size+1)],by simp; omega,oM,sP,by go_num,⟨(q.go nR CF).go' hb5,rfl⟩, ?_, ?_, ?_, ?_⟩
       ·have h1:=HA.out; unfold dV at h1; unfold dV Hid; simp [h1]
       ·have h1:=HL.out; unfold Hid; rw [← h1]; simp [ck]
       ·have h1:=Cp.out; rw [Hid]; simpa using h1
       ·have h1:=AR.out; rw [Hid]; simpa [dj.enc] using h1
      case measure=>simp [lenOf]; omega
    ·obtain rfl:n0=1:=by rw [Dx.2 h1] at xt; exact xt
     have HD:=jZ (DONE (dB h1))
     clear DONE h1 hx za hn Gi Eq Bg Dx xt zj
     go_wp2_with fail
     refine (Dt.out _).mono ?_
     rintro e w3 ⟨A3,c3,rfl,xN,xB⟩
     obtain ⟨g3,rfl,x0,hg3,hg3'⟩:=yj.out _ _ _ _ xN
     clear xN
     go_wp2_with fail
     refine (Hi.out _).mono ?_
     rintro e w4 ⟨ra,rb,ok,rfl,yv,xy⟩
     clear yv
     have CF:=av xB (xy.alloc xy.size (.cells #[.string ra,.string rb] 62))
     have Na:=jZ (HD.out _ CF)
     go_wp2_with fail
     go_ret2
     exact Na.out
   ·have HD:Hid (iq s w (.returned (.tuple #[.slice A m.length c,.int .i64 (a:Nat)])) q.val):=DONE (by rw [show 60 - m.length=0 by omega]; rfl) _ jB
    clear DONE
    go_wp2
    go_ret2
    exact HD.out
  ·have HD:Hid (iq s w (.returned (.tuple #[.slice A m.length c,.int .i64 (a:Nat)])) q.val):=DONE (dB (by rw [List.drop_eq_nil_of_le (by rw [ao]; omega)]; simp)) _ jB
   clear DONE
   go_wp2
   go_ret2
   exact HD.out
structure Lg where
 D:ByteArray
 P:ByteArray
 n:Int
abbrev Lg.val (l:Lg):Value:=.agg #[xh l.D,xh l.P,O U l.n]
noncomputable def Lg.ok (l:Lg):Bool:=rr (bl l.D) (bl l.P) l.n
def Lg.all (l:Lg):List UInt8:=bl l.D++bl l.P
theorem eM {α:Type} {l:List α} {j:Nat} (h:j < l.length) (d:α):l.getD j d=l[j]:=by rw [List.getD_eq_getElem?_getD,List.getElem?_eq_getElem h]; rfl
theorem oy {W:World} {B n:Nat} {A:Option Addr} {c:Nat} {l:List Nat} (h:W.ownsRow B 3 1 (F A n c) n (uz l)) (hn:n=l.length) (h0:0 < n) :
  ∃ g,A=some ⟨g,0,none⟩∧B≤g∧g < W.heap.size∧∀ j,j < n→W.cell? ⟨g,j,none⟩=some (O U ((l.getD j 0:Nat):Int)):=by
 obtain ⟨g,hA⟩ : ∃ g,A=some ⟨g,0,none⟩:=by
  obtain ⟨_,h0' | ⟨g,cap,cur,hv,_⟩⟩:=h
  ·have:=h0'.2; omega
  ·injection hv with e1 e2 e3; exact ⟨g,e1⟩
 subst hA
 refine ⟨g,rfl,(h.lt g rfl).1,(h.lt g rfl).2,fun j hj=>?_⟩
 rw [h.cellAt j oM]
 unfold uz
 rw [List.getElem?_map,List.getElem?_eq_getElem oM,eM oM]
 rfl
theorem pg {W:World} {g c:Nat} {l:List Nat} {x:Nat} {n:Nat} (hn:n=l.length) (hb:n≤9223372036854775807) (h:∀ j,j < n→W.cell? ⟨g,j,none⟩=some (O U ((l.getD j 0:Nat):Int))) :
  Calls xi 78 #[F (some ⟨g,0,none⟩) n c,O U (x:Int)] W fun e w'=>e=.returned (.bool (decide (x ∈ l)))∧w'=W:=by
 have h1:=Tryz.slices_Contains_int g 0 n c (l.map fun (y:Nat)=>(y:Int)) x W (by simp; omega) hb (fun j hj=>by
  simp only [List.length_map] at hj
  rw [Nat.zero_add,h j oM,eM hj,eM (by simpa using hj)]
  simp)
 have h2:((l.map fun (y:Nat)=>(y:Int)).take n).contains (x:Int)=decide (x ∈ l):=by
  rw [List.take_of_length_le (by simp; omega),Bool.eq_iff_iff]
  simp only [List.contains_eq_mem,decide_eq_true_eq,List.mem_map]
  exact ⟨fun ⟨a,ha,e⟩=>by rw [← Int.ofNat.inj e]; exact ha,fun h=>⟨x,h,rfl⟩⟩
 rw [h2] at h1
 exact h1
set_option maxRecDepth 100000 in
theorem ju (l:Lg) (w:World) (hs:l.D.size+l.P.size≤2000000) (ht:jj w) :
  Calls xi 42 #[l.val] w fun e w'=>e=.returned (.bool l.ok)∧Below w.heap.size w w':=by
 have b1:=bZ w (.cells #[xh l.D,xh l.P,O U l.n] 27)
 have L1:=ai.new w 27 #[xh l.D,xh l.P,O U l.n]
 have yG:=ht.then b1
 have zM:bl (l.D++l.P)=bl l.D++bl l.P:=dw _ _
 have hz:(l.D++l.P).size=l.D.size+l.P.size:=bg _ _
 have LD:=jZ (fun W hW=>hU (l.D++l.P) W oM hW)
 have xq:=@sw (bl l.D) (bl l.P) l.n
 have xt:=cW 60 0 (bl (l.D++l.P))
 have hroom:=fO 60 0 (bl (l.D++l.P))
 have hlast:=lk 0 (aF 60 0 (bl (l.D++l.P)))
 have GK:=ij 0 (aF 60 0 (bl (l.D++l.P)))
 rw [← zM] at xq
 rw [ao] at hroom
 rw [ao,ao] at xq
 rw [Nat.zero_add] at hlast
 obtain ⟨rs,Dy⟩ : ∃ rs,rs=aF 60 0 (bl (l.D++l.P)):=⟨_,rfl⟩
 obtain ⟨en,Kn⟩ : ∃ en,en=er 0 (aF 60 0 (bl (l.D++l.P))):=⟨_,rfl⟩
 have Fx:Hid (∀ W,jj W→Calls xi 68 #[xh (l.D++l.P)] W fun e w'=>∃ A c A' c' k g,k=rs.length∧A'=some ⟨g,0,none⟩∧e=.returned (.tuple #[F A k c,F A' (k+1) c'])∧(∀ j,j < k+1→w'.cell? ⟨g,j,none⟩=some (O U ((en.getD j 0:Nat):Int)))∧Below W.heap.size W w'):=fun W hW=>by
  refine (LD.out W hW).mono ?_
  rintro e w' ⟨A,c,A',c',m,rfl,hm,_,hO,hb⟩
  have DX:=gH hm
  obtain ⟨g,hA,_,_,hc⟩:=oy hO (by rw [ij,DX]) oM
  exact ⟨A,c,A',c',m.length,g,by rw [DX,Dy],hA,rfl,by rw [Kn]; exact hc,hb⟩
 clear LD
 rw [← Kn] at hlast GK xq
 rw [← Dy] at xt hroom hlast GK xq
 obtain ⟨k0,zK⟩ : ∃ k0,k0=rs.length:=⟨_,rfl⟩
 rw [← zK] at xt hlast GK xq Fx
 obtain ⟨z,yT⟩ : ∃ z,z=ck rs:=⟨_,rfl⟩
 rw [← yT] at hroom hlast xq
 have hlast' : en.getD k0 0=z:=by rw [List.getD_eq_getElem?_getD,hlast]; rfl
 have BZ:Hid (∀ (W:World) (g c:Nat),(∀ j,j < k0+1→W.cell? ⟨g,j,none⟩=some (O U ((en.getD j 0:Nat):Int)))→Calls xi 78 #[F (some ⟨g,0,none⟩) (k0+1) c,O U (l.D.size:Int)] W fun e w'=>e=.returned (.bool (decide (l.D.size ∈ en)))∧w'=W):=fun W g c h=>pg oM oM h
 have xF:Hid (l.ok=(decide (z=l.D.size+l.P.size) && decide (l.D.size ∈ en) && decide (l.n=(k0:Int)))):=by
  unfold Hid Lg.ok
  rw [Bool.eq_iff_iff,xq]
  simp [and_assoc]
 clear xq hlast zM Dy Kn zK yT
 generalize decide (l.D.size ∈ en)=dc at BZ xF
 go_enter Tryz.func42,Tryz.ntmps42
 go_wp2_with fail
 generalize w.alloc (.cells #[xh l.D,xh l.P,O U l.n] 27)=W at b1 L1 yG ⊢
 generalize hg:w.heap.size=g at L1 ⊢
 refine (Fx.out _ yG).mono ?_
 rintro e w2 ⟨A,c,A',c',k,g',rfl,rfl,rfl,hc',xn⟩
 have L2:=L1.below xn L1.lt
 obtain ⟨c0,c1,c2⟩:=cells3 L2
 have Ko:=jZ (BZ.out w2 g' c' hc')
 have hl:=hc' k oM
 rw [hlast'] at hl
 have yp:Below w.heap.size w w2:=by rw [← hg] at *; exact av b1 xn
 clear L1 L2 hc' BZ Fx
 by_cases e1:z=l.D.size+l.P.size
 ·rw [jD e1] at xF
  have d1:((z:Int) == (l.D.size:Int)+(l.P.size:Int))=true:=by rw [e1]; simp
  cases dc
  ·clear e1
   go_wp2_with (go_at_call 78; refine (Ko.out).mono ?_; rintro e w' ⟨rfl,rfl⟩)
   go_ret
   exact ⟨by rw [xF.out]; rfl,yp⟩
  ·by_cases e3:l.n=(k:Int)
   ·rw [jD e3] at xF
    have d3:(l.n == (k:Int))=true:=by rw [e3]; simp
    clear e1 e3
    go_wp2_with (go_at_call 78; refine (Ko.out).mono ?_; rintro e w' ⟨rfl,rfl⟩)
    go_ret
    exact ⟨by rw [xF.out]; rfl,yp⟩
   ·rw [jE e3] at xF
    have d3:(l.n == (k:Int))=false:=by simp [e3]
    clear e1 e3
    go_wp2_with (go_at_call 78; refine (Ko.out).mono ?_; rintro e w' ⟨rfl,rfl⟩)
    go_ret
    exact ⟨by rw [xF.out]; rfl,yp⟩
 ·rw [jE e1] at xF
  have d1:((z:Int) == (l.D.size:Int)+(l.P.size:Int))=false:=by simp; omega
  clear e1
  go_wp2_with fail
  go_ret
  exact ⟨by rw [xF.out]; rfl,yp⟩
set_option maxRecDepth 100000 in
theorem iD (l:Lg) (w:World) (hs:l.D.size+l.P.size≤2000000) :
  Calls xi 40 #[l.val] w fun e w'=>e=.returned (.bool l.ok)∧Below w.heap.size w w':=by
 have b1:=bZ w (.cells #[xh l.D,xh l.P,O U l.n] 27)
 have L1:=ai.new w 27 #[xh l.D,xh l.P,O U l.n]
 have zM:bl (l.D++l.P)=bl l.D++bl l.P:=dw _ _
 have hz:(l.D++l.P).size=l.D.size+l.P.size:=bg _ _
 have xq:=@ce (bl l.D) (bl l.P) l.n
 rw [← zM] at xq
 rw [ao,ao] at xq
 by_cases Ae:30000 < l.D.size+l.P.size
 ·have xF:Hid (l.ok=false):=by
   unfold Hid Lg.ok
   rw [Bool.eq_false_iff]
   intro h
   have h1:=fl (by rw [← zM,ao,ao]; exact (xq.1 h).1)
   rw [ao,ao] at h1; omega
  have d0:decide (30000 < (l.D.size:Int)+(l.P.size:Int))=true:=jD oM
  clear xq Ae
  go_enter Tryz.func40,Tryz.ntmps40
  go_wp2_with fail
  go_ret
  exact ⟨by rw [xF.out]; rfl,b1⟩
 ·have d0:decide (30000 < (l.D.size:Int)+(l.P.size:Int))=false:=jE oM
  have Cz:l.D.size+l.P.size≤30000:=oM
  have HA:=jZ (fun W=>kr (l.D++l.P) W oM)
  have HB:=jZ (fun W=>kr l.D W oM)
  have xt:=cW 60 0 (bl (l.D++l.P))
  have hroom:=fO 60 0 (bl (l.D++l.P))
  have hroomD:=fO 60 0 (bl l.D)
  rw [ao] at hroom hroomD
  obtain ⟨k0,zK⟩ : ∃ k0,k0=(aF 60 0 (bl (l.D++l.P))).length:=⟨_,rfl⟩
  obtain ⟨z,yT⟩ : ∃ z,z=ck (aF 60 0 (bl (l.D++l.P))):=⟨_,rfl⟩
  obtain ⟨y,IX⟩ : ∃ y,y=ck (aF 60 0 (bl l.D)):=⟨_,rfl⟩
  have BX:Hid (∀ W,Calls xi 77 #[xh (l.D++l.P)] W fun e w'=>∃ A c k,k=k0∧e=.returned (.tuple #[F A k c,O U (z:Nat)])∧Below W.heap.size W w'):=fun W=>by
   refine (HA.out W).mono ?_
   rintro e w' ⟨A,c,m,rfl,hm,_,hb⟩
   exact ⟨A,c,m.length,by rw [gH hm,zK],by rw [yT],hb⟩
  have IY:Hid (∀ W,Calls xi 77 #[xh l.D] W fun e w'=>∃ A c k,e=.returned (.tuple #[F A k c,O U (y:Nat)])∧Below W.heap.size W w'):=fun W=>by
   refine (HB.out W).mono ?_
   rintro e w' ⟨A,c,m,rfl,hm,_,hb⟩
   exact ⟨A,c,m.length,by rw [IX],hb⟩
  rw [← zK,← yT,← IX] at xq
  rw [← zK] at xt
  rw [← yT] at hroom
  rw [← IX] at hroomD
  have xF:Hid (l.ok=(decide (z=l.D.size+l.P.size) && decide (y=l.D.size) && decide ((k0:Int)=l.n))):=by
   unfold Hid Lg.ok
   rw [Bool.eq_iff_iff,xq]
   simp [and_assoc]
  clear xq zM zK yT IX HA HB Ae
  go_enter Tryz.func40,Tryz.ntmps40
  go_wp2_with fail
  generalize w.alloc (.cells #[xh l.D,xh l.P,O U l.n] 27)=W at b1 L1 ⊢
  generalize hg:w.heap.size=g at L1 ⊢
  refine (BX.out _).mono ?_
  rintro e w2 ⟨A,c,k,rfl,rfl,xn⟩
  have L2:=L1.below xn L1.lt
  obtain ⟨c0,c1,c2⟩:=cells3 L2
  clear L1
  go_wp2_with fail
  refine (IY.out _).mono ?_
  rintro e w3 ⟨A',c',k',rfl,xB⟩
  have L3:=L2.below xB L2.lt
  clear c0 c1 c2
  obtain ⟨c0,c1,c2⟩:=cells3 L3
  have yp:Below w.heap.size w w3:=by rw [← hg] at *; exact av b1 (av xn xB)
  clear L2 L3
  by_cases e1:z=l.D.size+l.P.size
  ·rw [jD e1] at xF
   have d1:((z:Int) == (l.D.size:Int)+(l.P.size:Int))=true:=by rw [e1]; simp
   by_cases e2:y=l.D.size
   ·rw [jD e2] at xF
    have d2:((y:Int) == (l.D.size:Int))=true:=by rw [e2]; simp
    by_cases e3:(k:Int)=l.n
    ·rw [jD e3] at xF
     have d3:((k:Int) == l.n)=true:=by rw [e3]; simp
     clear e1 e2 e3
     go_wp2_with fail
     go_ret
     exact ⟨by rw [xF.out]; rfl,yp⟩
    ·rw [jE e3] at xF
     have d3:((k:Int) == l.n)=false:=by simp [e3]
     clear e1 e2 e3
     go_wp2_with fail
     go_ret
     exact ⟨by rw [xF.out]; rfl,yp⟩
   ·rw [jE e2] at xF
    have d2:((y:Int) == (l.D.size:Int))=false:=by simp; omega
    clear e1 e2
    go_wp2_with fail
    go_ret
    exact ⟨by rw [xF.out]; rfl,yp⟩
  ·rw [jE e1] at xF
   have d1:((z:Int) == (l.D.size:Int)+(l.P.size:Int))=false:=by simp; omega
   clear e1
   go_wp2_with fail
   go_ret
   exact ⟨by rw [xF.out]; rfl,yp⟩
end Go.Proofs.YtoeoimhemojdeaaGreatDoor
namespace Go.Proofs.YtoeoimhemojdeaaGreatDoor
open Go.ChangeShapes Go.WideShapes Go.ChangeAt Go.RowKit Go.Deep
section
variable {H:Type} {enc:TypeId × Value→H} {P:Program} {w:World} {base:Nat} {spare:Nat→Bool} {held:Bool}
theorem uB {w:World} {a:Addr} {u:Value} (h:w.cell? a=some u):∃ b off,a=⟨b,off,none⟩∧b < w.heap.size:=by
 obtain ⟨b,off,sp⟩:=a
 cases sp with
 | none=>exact ⟨b,off,rfl,block_lt_of_cell h⟩
 | some s =>
  simp only [World.cell?] at h
  split at h <;> simp_all
theorem rA {t e:TypeId} {k n:Nat} {v:Value} {x:DataW H × List MemPlace} (ht:P.underlying t=some (.slice e)) (hk:P.cellsOf e=k) (zK:0 < k)
  (h:DataW.trod enc P w base spare held n t [v]=some x) :
  ∃ A len cap,v=.slice A len cap∧∃ css:List (List Value),css.length=len∧bi w w.heap.size k A len css.flatten ∧
   ∀ cs ∈ css,cs.length=k∧∃ m y,DataW.trod enc P w base spare held m e cs=some y:=by
 rcases open_slice ht h with ⟨h0,_⟩ | ⟨a,len,cap,m,n',D,Pl,yD,hb,hl,hm,Hl,hx,hi⟩
 ·have:v=.slice none 0 0:=by simpa using h0
  exact ⟨none,0,0,this,[],rfl,bi.nil _ _ _ _,sP⟩
 ·have hv:v=.slice (some a) len cap:=by simpa using yD
  have Ca:len≤m:=by rw [Hl]; split <;> omega
  rw [hk] at hi
  have Kp:∀ i:Nat,∃ cs:List Value,cs.length=k∧(i < len→(∀ j u,cs[j]?=some u→w.cell? ((a.add (i * k)).add j)=some u)∧∃ m y,DataW.trod enc P w base spare held m e cs=some y):=fun i=>by
   by_cases xu:i < len
   ·obtain ⟨cs',hc,ht'⟩:=hi i oM
    obtain ⟨_,yC,hat⟩:=World.cells?_some hc
    exact ⟨cs',yC,fun _=>⟨fun j u hu=>by
     have hj:j < cs'.length:=(List.getElem?_eq_some_iff.1 hu).1
     rw [hat j oM,hu],_,_,ht'⟩⟩
   ·exact ⟨List.replicate k undef,sP,fun h=>absurd h xu⟩
  obtain ⟨f,hf⟩:=Classical.axiomOfChoice Kp
  have Gh:∀ i,(f i).length=k:=fun i=>(hf i).1
  have xt:=fZ f k Gh (List.range len)
  rw [List.length_range,List.flatMap_def] at xt
  refine ⟨some a,len,cap,hv,(List.range len).map f,sP,⟨xt,by unfold maxLen at hm; omega,fun Hm=>?_⟩, ?_⟩
  ·have h00:(f 0)[0]?=some ((f 0)[0]'(by rw [Gh]; exact zK)):=List.getElem?_eq_getElem _
   have hc0:=((hf 0).2 Hm).1 0 _ h00
   rw [Nat.zero_mul] at hc0
   obtain ⟨b,off,rfl,hb'⟩:=uB (a:=a) hc0
   refine ⟨b,off,rfl,hb',fun j u hu=>?_⟩
   have hj:j < len * k:=by rw [← xt]; exact (List.getElem?_eq_some_iff.1 hu).1
   have hi' : j / k < len:=Nat.div_lt_of_lt_mul (by rw [Nat.mul_comm]; exact hj)
   have hr:j % k < k:=Nat.mod_lt _ zK
   have e:j=j / k * k+j % k:=by rw [Nat.mul_comm]; exact (Nat.div_add_mod j k).symm
   have hat:=fm f k Gh (List.range len) (j / k) (by simpa using hi') (j % k) hr
   rw [List.flatMap_def,← e,List.getElem_range,hu] at hat
   have hc:=((hf (j / k)).2 hi').1 (j % k) u hat.symm
   have Kq:((⟨b,off,none⟩ : Addr).add (j / k * k)).add (j % k)=⟨b,off+j,none⟩:=by
    unfold Addr.add
    by_cases h1:j / k * k=0 <;> by_cases h2:j % k=0 <;> simp [h1,h2] <;> omega
   rw [Kq] at hc
   exact hc
  ·intro cs yD
   obtain ⟨i,hi,rfl⟩:=List.mem_map.1 yD
   exact ⟨Gh i,((hf i).2 (List.mem_range.1 hi)).2⟩
end
theorem mz {α:Type} (enc:α→List Value):∀ css:List (List Value),(∀ cs ∈ css,∃ x,cs=enc x)→∃ l:List α,css.flatten=l.flatMap enc∧l.length=css.length
 | [],_=>⟨[],rfl,rfl⟩
 | cs :: css,h=>by
  obtain ⟨x,hx⟩:=h cs sP
  obtain ⟨l,hl,hn⟩:=mz enc css (fun c hc=>h c (by simp [hc]))
  exact ⟨x :: l,by simp [hl,hx],by simp [hn]⟩
section
variable {H:Type} {enc:TypeId × Value→H} {P:Program} {w:World} {base:Nat} {spare:Nat→Bool} {held:Bool}
end
section
variable {H:Type} {enc:TypeId × Value→H} {P:Program} {w:World} {base:Nat} {spare:Nat→Bool} {held:Bool}
end
end Go.Proofs.YtoeoimhemojdeaaGreatDoor
namespace Go.Proofs.YtoeoimhemojdeaaGreatDoor
open Go.RowKit
abbrev aK (x:aN) (l:Lg):Value:=.agg #[F x.TA x.t.length x.tc,F x.OA x.o.length x.oc,O U x.gt,O U x.sd,O U x.ms,xh l.D,xh l.P,O U l.n]
noncomputable def eu (x:aN) (l:Lg):Bool:=ap x && l.ok
theorem lm {w:World} {g:Nat} {t:TypeId} {x:aN} {l:Lg} (h:ai w g t [F x.TA x.t.length x.tc,F x.OA x.o.length x.oc,O U x.gt,O U x.sd,O U x.ms,xh l.D,xh l.P,O U l.n]) (hr:aQ w w.heap.size x):cu w w.heap.size g x :=
 ⟨⟨fun p=>(p.cell h.lt).trans (h.cell 0),fun p=>(p.cell h.lt).trans (h.cell 1),fun p=>(p.cell h.lt).trans (h.cell 2),fun p=>(p.cell h.lt).trans (h.cell 3),fun p=>(p.cell h.lt).trans (h.cell 4)⟩,h.lt,hr⟩
theorem fU (x:aN) (l:Lg) (w:World) (h:aQ w w.heap.size x) (hs:l.D.size+l.P.size≤2000000) :
  Calls xi 45 #[aK x l] w fun e w'=>e=.returned (.bool (eu x l))∧Below w.heap.size w w':=by
 have b1:=bZ w (.cells #[F x.TA x.t.length x.tc,F x.OA x.o.length x.oc,O U x.gt,O U x.sd,O U x.ms,xh l.D,xh l.P,O U l.n] 42)
 have L1:=ai.new w 42 #[F x.TA x.t.length x.tc,F x.OA x.o.length x.oc,O U x.gt,O U x.sd,O U x.ms,xh l.D,xh l.P,O U l.n]
 have cO:=ei x _ (h.up b1 nR)
 have HC:Hid (eu x l=(ap x && l.ok)):=rfl
 have cL:=fun W=>iD l W hs
 generalize ap x=v1 at cO HC
 generalize l.ok=v2 at cL HC
 cases v1
 ·go_enter Tryz.func45,Tryz.ntmps45
  go_wp2_with fail
  refine cO.mono ?_
  rintro e w1 ⟨rfl,xp⟩
  go_wp2_with fail
  go_ret
  exact ⟨by rw [HC.out]; rfl,av b1 xp⟩
 ·go_enter Tryz.func45,Tryz.ntmps45
  go_wp2_with fail
  refine cO.mono ?_
  rintro e w1 ⟨rfl,xp⟩
  have M1:=L1.below xp L1.lt
  have c5:=M1.cell 5
  have c6:=M1.cell 6
  have c7:=M1.cell 7
  simp only [gz0,gz1] at c5 c6 c7
  go_wp2_with fail
  refine (cL _).mono ?_
  rintro e w2 ⟨rfl,xn⟩
  go_wp2_with fail
  go_ret
  exact ⟨by rw [HC.out]; rfl,av b1 (av xp xn)⟩
theorem eY (x:aN) (l:Lg) (w:World) (h:aQ w w.heap.size x) (hs:l.D.size+l.P.size≤2000000) (ht:jj w) :
  Calls xi 28 #[aK x l] w fun e w'=>e=.returned (.bool (eu x l))∧Below w.heap.size w w':=by
 have b1:=bZ w (.cells #[F x.TA x.t.length x.tc,F x.OA x.o.length x.oc,O U x.gt,O U x.sd,O U x.ms,xh l.D,xh l.P,O U l.n] 42)
 have L1:=ai.new w 42 #[F x.TA x.t.length x.tc,F x.OA x.o.length x.oc,O U x.gt,O U x.sd,O U x.ms,xh l.D,xh l.P,O U l.n]
 have yG:=ht.then b1
 have cO:=aZ x _ _ (lm L1 (h.up b1 nR))
 have HC:Hid (eu x l=(ap x && l.ok)):=rfl
 have cL:=fun W hW=>ju l W hs hW
 generalize ap x=v1 at cO HC
 generalize l.ok=v2 at cL HC
 cases v1
 ·go_enter Tryz.func28,Tryz.ntmps28
  go_wp2_with fail
  refine cO.mono ?_
  rintro e w1 ⟨rfl,xp⟩
  go_wp2_with fail
  go_ret
  exact ⟨by rw [HC.out]; rfl,av b1 xp⟩
 ·go_enter Tryz.func28,Tryz.ntmps28
  go_wp2_with fail
  refine cO.mono ?_
  rintro e w1 ⟨rfl,xp⟩
  have M1:=L1.below xp L1.lt
  have c5:=M1.cell 5
  have c6:=M1.cell 6
  have c7:=M1.cell 7
  simp only [gz0,gz1] at c5 c6 c7
  go_wp2_with fail
  refine (cL _ (yG.then xp)).mono ?_
  rintro e w2 ⟨rfl,xn⟩
  go_wp2_with fail
  go_ret
  exact ⟨by rw [HC.out]; rfl,av b1 (av xp xn)⟩
def gI (p:List UInt8) (k:Nat) (torn:Bool):List UInt8:=if torn=true∧0 < k then (p.take k).set (k - 1) (255 - (p.take k).getD (k - 1) 0) else p.take k
noncomputable def fz (l:Lg) (k:Int):Bool:=l.ok && bX k 0 l.P.size
noncomputable def dk (l:Lg) (k:Int) (torn:Bool):ByteArray:=if fz l k then l.D++⟨(gI (bl l.P) k.toNat torn).toArray⟩ else ⟨#[]⟩
theorem tY (b:UInt8):((255 - b).toNat:Int)=255 - (b.toNat:Int):=by
 have h:=UInt8.toNat_lt b
 have h2:b≤255:=by rw [UInt8.le_iff_toNat_le]; exact Nat.le_of_lt_succ h
 have:(255 - b).toNat=255 - b.toNat:=UInt8.toNat_sub_of_le 255 b h2
 rw [this]; omega
theorem wm (x:ByteArray) (w:World):∃ W3 cap,(convert 9 54 (xh x)).run xi w=.ok (F (some ⟨w.heap.size,0,none⟩) x.size cap) W3∧Below w.heap.size w W3 ∧
  (∀ j,j < x.size→W3.cell? ⟨w.heap.size,j,none⟩=some (.int .u8 (((bl x).getD j 0).toNat:Int)))∧(∀ j,j < x.size→W3.frozen? ⟨w.heap.size,j,none⟩=false):=by
 refine ⟨_,_,run_bytes_of_string w 9 54 5 x Tryz.underlying9 Tryz.underlying54 Tryz.underlying5,(Below.refl w.heap.size w).drew.alloc sP _,fun j hj=>?_,fun j hj=>?_⟩
 ·have h1:=World.cell?_alloc_mark w.drew (bytesRow x (grownCap w x.size 0 5)) 5 ((bytesRow x (grownCap w x.size 0 5)).size,(bytesRow x (grownCap w x.size 0 5)).size+1) j
  have e:w.drew.heap.size=w.heap.size:=sP
  rw [e] at h1
  rw [h1,bytesRow_at x _ j hj,eM (by rw [ao]; exact hj)]
  rfl
 ·have h1:=World.frozen?_alloc_mark w.drew (bytesRow x (grownCap w x.size 0 5)) 5 (bytesRow x (grownCap w x.size 0 5)).size ((bytesRow x (grownCap w x.size 0 5)).size+1) j
  have e:w.drew.heap.size=w.heap.size:=sP
  rw [e] at h1
  rw [h1]
  have hz:x.size≤(bytesRow x (grownCap w x.size 0 5)).size:=by unfold bytesRow; simp <;> (show x.data.size≤_; exact Nat.le_add_right _ _)
  simp; omega
theorem kJ {W:World} {g:Nat} {l:List UInt8} {cap:Nat} (h:∀ j,j < l.length→W.cell? ⟨g,j,none⟩=some (.int .u8 ((l.getD j 0).toNat:Int))) :
  (convert 54 9 (F (some ⟨g,0,none⟩) l.length cap)).run xi W=.ok (xh ⟨l.toArray⟩) W :=
 run_convert_bytes_back W 54 9 5 ⟨g,0,none⟩ cap l Tryz.underlying54 Tryz.underlying5 Tryz.underlying9 (fun j hj=>by
  have e:(⟨g,0,none⟩ : Addr).add j=⟨g,j,none⟩:=by unfold Addr.add; simp <;> exact fun h=>h.symm
  rw [e,h j hj,eM hj])
set_option maxRecDepth 100000 in
theorem ph (l:Lg) (k:Int) (torn:Bool) (w:World) (hs:l.D.size+l.P.size≤2000000) (ht:jj w) :
  Calls xi 38 #[l.val,O U k,.bool torn] w fun e w'=>e=.returned (.tuple #[xh (dk l k torn),.bool (fz l k)])∧Below w.heap.size w w':=by
 have b1:=bZ w (.cells #[xh l.D,xh l.P,O U l.n] 27)
 have L1:=ai.new w 27 #[xh l.D,xh l.P,O U l.n]
 have yG:=ht.then b1
 go_enter Tryz.func38,Tryz.ntmps38
 go_wp2_with fail
 generalize w.alloc (.cells #[xh l.D,xh l.P,O U l.n] 27)=W at yG b1 L1 ⊢
 generalize hg:w.heap.size=g at L1 ⊢
 refine (ju l _ hs yG).mono ?_
 rintro e w2 ⟨rfl,xn⟩
 have L2:=L1.below xn L1.lt
 obtain ⟨c0,c1,c2⟩:=cells3 L2
 have yp:Below w.heap.size w w2:=by rw [← hg] at *; exact av b1 xn
 have Fy:=jZ (show fz l k=(l.ok && bX k 0 l.P.size) from rfl)
 cases xq:l.ok
 ·have HK:Hid (fz l k=false):=by rw [Fy.out,xq]; rfl
  have HT:Hid (dk l k torn=⟨#[]⟩):=by unfold dk Hid; rw [HK.out]; rfl
  clear xq Fy L1 L2
  go_wp2_with fail
  go_ret2
  exact ⟨by rw [HK.out,HT.out] <;> rfl,yp⟩
 ·cases hr:bX k 0 l.P.size
  ·have HK:Hid (fz l k=false):=by rw [Fy.out,xq,hr]; rfl
   have HT:Hid (dk l k torn=⟨#[]⟩):=by unfold dk Hid; rw [HK.out]; rfl
   have HR:=jZ hr
   clear xq hr Fy L1 L2
   go_wp2_with (go_at_call 75; refine (aM _ _ _ _).mono ?_; rw [HR.out]; rintro en w' ⟨rfl,rfl⟩)
   go_ret2
   exact ⟨by rw [HK.out,HT.out] <;> rfl,yp⟩
  ·have HK:Hid (fz l k=true):=by rw [Fy.out,xq,hr]; rfl
   have Bt:Hid (dk l k torn=l.D++⟨(gI (bl l.P) k.toNat torn).toArray⟩):=by unfold dk Hid; rw [HK.out]; rfl
   have HR:=jZ hr
   rw [bV] at hr
   obtain ⟨n,rfl⟩:=Int.eq_ofNat_of_zero_le hr.1
   have hn:n≤l.P.size:=oM
   rw [Int.toNat_natCast] at Bt
   have i1:(n:Int)≤(l.P.size:Int):=oM
   have Ay:(l.P.extract 0 n).size=n:=by rw [← ao,bH,List.drop_zero,List.length_take,ao]; omega
   obtain ⟨x,hx⟩ : ∃ x:ByteArray,x=l.P.extract 0 n:=⟨_,rfl⟩
   have za:bl x=(bl l.P).take n:=by rw [hx,bH,List.drop_zero]
   rw [← hx] at Ay
   obtain ⟨W3,cap,hconv0,hbW3,hcell,Jb⟩:=wm x w2
   rw [hx] at hconv0
   have hxs' : (l.P.extract 0 n).size=n:=by rw [← hx]; exact Ay
   rw [hxs'] at hconv0
   have AB:g < w2.heap.size:=L2.lt
   have c0':=(L2.below hbW3 L2.lt).cell 0
   have c1':=(L2.below hbW3 L2.lt).cell 1
   simp only [gz0,gz1] at c0' c1'
   generalize Ov:w2.heap.size=gx at hconv0 hcell Jb AB
   have xw:g ≠ gx:=oM
   by_cases hlast:torn=true∧0 < n
   ·obtain ⟨rfl,h0⟩:=hlast
    have hL:gI (bl l.P) n true=(bl x).set (n - 1) (255 - (bl x).getD (n - 1) 0):=by unfold gI; rw [if_pos ⟨rfl,h0⟩,za]
    have xt:(bl x).length=n:=by rw [ao,Ay]
    have d1:decide (0 < (n:Int))=true:=jD oM
    obtain ⟨m,rfl⟩ : ∃ m,n=m+1:=⟨n - 1,oM⟩
    have Bx:Hid (bX ((m:Int)+1) 0 l.P.size=true):=HR.out
    have d3:decide (0 < m+1)=true:=sP
    have j1:(m:Int)+1≤(l.P.size:Int):=oM
    have d2:decide (0 < (m:Int)+1)=true:=jD oM
    have hc:=hcell m oM
    have hf:=Jb m oM
    obtain ⟨b,hb⟩ : ∃ b,b=(bl x).getD m 0:=⟨_,rfl⟩
    rw [← hb] at hc
    have ub:(b.toNat:Int)≤255:=by have:=UInt8.toNat_lt b; omega
    have hback0:=kJ (W:=W3.setCell ⟨gx,m,none⟩ (.int .u8 (255 - (b.toNat:Int)))) (g:=gx) (l:=(bl x).set m (255 - b)) (cap:=cap) (fun j hj=>by
     rw [List.length_set] at hj
     by_cases LF:j=m
     ·subst LF
      rw [World.cell?_setCell_same _ _ _ hc]
      rw [eM (by rw [List.length_set]; omega),List.getElem_set_self,tY]
     ·rw [World.cell?_setCell_other _ _ _ _ (by intro hc9; injection hc9 with _ Ow _; omega),hcell j oM,eM oM,eM (by rw [List.length_set]; omega),List.getElem_set_ne (Ne.symm LF)])
    rw [List.length_set,xt] at hback0
    have HT:Hid (dk l ((m+1:Nat):Int) true=l.D++⟨((bl x).set m (255 - b)).toArray⟩):=by rw [Hid,Bt.out,hL,hb]; first | done | rfl
    have Eq:(⟨((bl x).set m (255 - b)).toArray⟩ : ByteArray).size=m+1:=by rw [← ao,bO,List.length_set,xt]
    have At:Below w.heap.size w (W3.setCell ⟨gx,m,none⟩ (.int .u8 (255 - (b.toNat:Int)))):=(yp.trans (hbW3.mono yp.size)).setCell (p:=⟨gx,m,none⟩) (by simp only; have:=yp.size; omega) _
    generalize (⟨((bl x).set m (255 - b)).toArray⟩ : ByteArray)=y at HT Eq hback0
    clear xq hr Fy L1 L2 Bt hL xt za hcell Jb hb hx Ay
    go_wp2_with (go_at_call 75; refine (aM _ _ _ _).mono ?_; first | rw [HR.out] | rw [Bx.out]; rintro en w' ⟨rfl,rfl⟩)
    go_ret2
    exact ⟨by rw [HK.out,HT.out] <;> rfl,At⟩
   ·have hL:gI (bl l.P) n torn=bl x:=by unfold gI; rw [if_neg hlast,za]
    have xt:(bl x).length=n:=by rw [ao,Ay]
    have hback0:=kJ (W:=W3) (g:=gx) (l:=bl x) (cap:=cap) (fun j hj=>hcell j oM)
    rw [xt] at hback0
    have HT:Hid (dk l (n:Int) torn=l.D++⟨(bl x).toArray⟩):=by rw [Hid,Bt.out,hL]
    have Eq:(⟨(bl x).toArray⟩ : ByteArray).size=n:=by rw [← ao,bO,xt]
    have At:Below w.heap.size w W3:=yp.trans (hbW3.mono yp.size)
    generalize (⟨(bl x).toArray⟩ : ByteArray)=y at HT Eq hback0
    clear hL xt za hcell Jb hx Ay xq hr Fy L1 L2 Bt
    cases torn
    ·go_wp2_with (go_at_call 75; refine (aM _ _ _ _).mono ?_; rw [HR.out]; rintro en w' ⟨rfl,rfl⟩)
     go_ret2
     exact ⟨by rw [HK.out,HT.out] <;> rfl,At⟩
    ·have h0:n=0:=by
      rcases Nat.eq_zero_or_pos n with h | h
      ·exact h
      ·exact absurd ⟨rfl,h⟩ hlast
     have d1:decide (0 < (n:Int))=false:=jE oM
     have d2:decide (0 < n)=false:=jE oM
     clear hlast h0
     go_wp2_with (go_at_call 75; refine (aM _ _ _ _).mono ?_; rw [HR.out]; rintro en w' ⟨rfl,rfl⟩)
     go_ret2
     exact ⟨by rw [HK.out,HT.out] <;> rfl,At⟩
end Go.Proofs.YtoeoimhemojdeaaGreatDoor
