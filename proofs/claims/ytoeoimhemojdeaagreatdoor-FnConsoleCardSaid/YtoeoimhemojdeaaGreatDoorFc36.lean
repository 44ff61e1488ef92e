/- Lemmas. -/
import Derived.Deep.DeepCutAuto
import Derived.Lib.AtoiErrMem
import Derived.Test.YtoeoimhemojdeaaGreatDoorFc35

set_option linter.unusedVariables false
set_option linter.unusedSimpArgs false
set_option maxHeartbeats 8000000
open Go.Value renaming int → O, slice → F, string → vw
open Go.IntKind renaming i64 → U
open Go.Proofs.Tryz renaming prog → vx

namespace Go.Proofs.YtoeoimhemojdeaaGreatDoor
open Go.RowKit
theorem ip (a b:ByteArray):(a.toList == b.toList)=decide (bl a=bl b):=by
 rw [ByteArray.toList_eq a,ByteArray.toList_eq b,Bool.eq_iff_iff]; simp [bl]
def vn (s t:List UInt8) (neg:Bool):Prop:=(neg=true∧s=45 :: t∧1≤t.length) ∨ (neg=false∧s=t∧(s.head? ≠ some 45 ∨ s.length≤1))
theorem gQ {s t:List UInt8} {neg:Bool} (h:vn s t neg) {n:Int} (hq:cW s=some n):1≤t.length∧t.length≤6∧Lib.decFrom 0 t=some n.natAbs∧n=(if neg=true then -(n.natAbs:Int) else (n.natAbs:Int)):=by
 obtain ⟨h6,e⟩:=iH hq
 rcases uk h6 e with ⟨h1,t',h2,h3,h4,h5⟩ | ⟨h1,h2,h3,h4,h5⟩
 ·rcases h with ⟨rfl,h7,h8⟩ | ⟨rfl,h7,h8⟩
  ·rw [h2] at h7; injection h7 with _ h7; subst h7
   exact ⟨h3,h4,h5,by simp; omega⟩
  ·exfalso
   rcases h8 with h8 | h8
   ·rw [h2] at h8; exact h8 rfl
   ·rw [h2] at h8; simp only [List.length_cons] at h8; omega
 ·rcases h with ⟨rfl,h7,h8⟩ | ⟨rfl,h7,h8⟩
  ·exfalso; rw [h7] at h2; exact h2 rfl
  ·subst h7; exact ⟨h3,h4,h5,by simp; omega⟩
set_option maxRecDepth 100000 in
theorem rJ (s:ByteArray) (w:World) (hs:s.size≤1000000000) :
  Calls vx 135 #[vw s] w (jb s w):=by
 by_cases wH:1 < s.size
 ·have hi:(1:Int) < (s.size:Int):=oM
  by_cases h45:s[0].toNat=45
  ·have hT:vn (bl s) (bl (s.extract 1 s.size)) true:=by
    refine .inl ⟨rfl, ?_, ?_⟩
    ·have h1:=kb (s:=s) (k:=0) oM
     rw [bE,List.take_of_length_le (by rw [ao]; exact Nat.le_refl _)]
     have h2:s[0]=45:=UInt8.toNat_inj.1 h45
     rw [List.drop_zero,h2] at h1; exact h1
    ·rw [bE,List.length_drop,List.length_take,ao]; omega
   obtain ⟨t,ht⟩ : ∃ t,s.extract 1 s.size=t:=⟨_,rfl⟩
   have Eh:t.size+1=s.size:=by rw [← ht,← ao,bE,List.length_drop,List.length_take,ao]; omega
   rw [ht] at hT
   have hq:((s[0].toNat:Int) == 45)=true:=by simp; omega
   have KN:=jZ h45
   clear h45
   go_enter Tryz.func135,Tryz.ntmps135
   go_upto_region 4 with fail
   clear ht
   by_cases vG:1≤t.size∧t.size≤6
   ·obtain ⟨Bq,Gs⟩:=vG
    have HT:=jZ hT
    clear hT
    have i1:(1:Int)≤(t.size:Int):=oM
    have i6:(t.size:Int)≤6:=oM
    have wT:cc (t.size:Int) 1 6=true:=iI.2 ⟨i1,i6⟩
    go_wp2_with fail
    refine (aH _ _ _ _).mono ?_
    rintro e w' ⟨rfl,rfl⟩
    rw [wT]
    clear wT
    go_wp2_with fail
    go_loopw [5,6] (fun m i wr=>∃ (k acc:Nat),k≤t.size∧i=O U k∧m=O U acc∧acc < 1000000∧w=wr∧Hid (Lib.decFrom 0 ((bl t).take k)=some acc)) (fun _ i _=>t.size - (intOf i).toNat)
    case atStart=>exact ⟨0,0,Nat.zero_le _,rfl,rfl,oM,rfl,by simp [Lib.decFrom,Hid]⟩
    case round =>
     obtain ⟨k,acc,hk,rfl,rfl,y8,rfl,HD⟩:=hrel
     by_cases vH:k < t.size
     ·by_cases hd:48≤t[k].toNat∧t[k].toNat≤57
      ·obtain ⟨yT,yU⟩:=hd
       have yV:Hid (Lib.decFrom 0 ((bl t).take (k+1))=some (acc * 10+(t[k].toNat - 48))) :=
        Lib.decFrom_take (bl t) k 0 acc t[k] (t[k].toNat - 48) HD.out (List.getElem?_eq_getElem (l:=bl t) vH) (by unfold Lib.digitVal; rw [if_pos ⟨yT,yU⟩])
       have zE:acc * 10+(t[k].toNat - 48) < 1000000:=by
        have h1:=Lib.decFrom_lt _ _ _ yV.out
        have h2:((bl t).take (k+1)).length≤6:=by rw [List.length_take]; omega
        have h3:=Nat.pow_le_pow_right (show 0 < 10 by omega) h2
        omega
       have j1:(48:Int)≤(t[k].toNat:Int):=oM
       have j2:(t[k].toNat:Int)≤57:=oM
       have j3:IntKind.u8.wrap ((t[k].toNat:Int) - 48)=(t[k].toNat:Int) - 48:=IntWalk.u8_in _ oM
       have j4:IntKind.i64.wrap ((t[k].toNat:Int) - 48)=(t[k].toNat:Int) - 48:=IntWalk.i64_in _ oM
       have j5:IntKind.i64.wrap (10 * (acc:Int))=10 * (acc:Int):=IntWalk.i64_in _ oM
       have j6:IntKind.i64.wrap (10 * (acc:Int)+((t[k].toNat:Int) - 48))=10 * (acc:Int)+((t[k].toNat:Int) - 48):=IntWalk.i64_in _ oM
       clear HD y8
       go_wp2_with fail
       go_roundw
       case rel=>exact ⟨k+1,acc * 10+(t[k].toNat - 48),oM,by go_num,by go_num,zE,by first | trivial | rfl,yV⟩
       case measure=>simp [intOf] <;> omega
      ·have HZ:Hid (cW (bl s)=none):=by
        cases hq:cW (bl s) with
        | none=>rfl
        | some n =>
         exfalso
         obtain ⟨_,_,h3,_⟩:=gQ HT.out hq
         obtain ⟨d,Fy⟩:=Lib.digit_of_decFrom _ _ _ h3 k t[k] (List.getElem?_eq_getElem (l:=bl t) vH)
         have:=Lib.digitVal_eq Fy
         omega
       by_cases h48:t[k].toNat < 48
       ·have j1:(t[k].toNat:Int) < 48:=oM
        clear hd
        go_wp2_with fail
        go_ret2
        exact ⟨by rw [HZ.out]; rfl,Below.refl _ _⟩
       ·have j1 : ¬ (t[k].toNat:Int) < 48:=oM
        have j2:(57:Int) < (t[k].toNat:Int):=oM
        clear hd h48
        go_wp2_with fail
        go_ret2
        exact ⟨by rw [HZ.out]; rfl,Below.refl _ _⟩
     ·obtain rfl:k=t.size:=oM
      have HF:Hid (Lib.decFrom 0 (bl t)=some acc):=by
       have h1:=HD.out
       rw [List.take_of_length_le (by rw [ao]; exact Nat.le_refl _)] at h1; exact h1
      clear vH HD
      have yE:Hid (∀ W:World,Calls vx 71 #[O U (-(acc:Int))] W fun e w'=>e=.returned (vw ⟨(Lib.itoa (-(acc:Int))).toArray⟩)∧Below W.heap.size W w'):=fun W=>lX (-(acc:Int)) W oM oM
      obtain ⟨nt,Ak⟩ : ∃ x:ByteArray,x=⟨(Lib.itoa (-(acc:Int))).toArray⟩:=⟨_,rfl⟩
      have za:bl nt=Lib.itoa (-(acc:Int)):=by rw [Ak,bL]
      rw [← Ak] at yE
      clear Ak
      have j7:IntKind.i64.wrap (-(acc:Int)) = -(acc:Int):=IntWalk.i64_in _ oM
      have j8:(t.size:Int) < (s.size:Int):=oM
      by_cases hs:Lib.itoa (-(acc:Int))=bl s
      ·have HZ:Hid (cW (bl s)=some (-(acc:Int))):=mY ⟨oM,oM⟩ hs
       have hb:(nt.toList == s.toList)=true:=by rw [ip,za,hs]; simp
       clear hs za
       go_wp2_with fail
       refine (yE.out _).mono ?_
       rintro e w1 ⟨rfl,vD⟩
       go_wp2_with fail
       go_ret2
       exact ⟨by rw [HZ.out]; rfl,vD⟩
      ·have HZ:Hid (cW (bl s)=none):=by
        cases hq:cW (bl s) with
        | none=>rfl
        | some n =>
         exfalso
         obtain ⟨_,_,h3,h4⟩:=gQ HT.out hq
         rw [HF.out] at h3
         injection h3 with h3
         have h5:n = -(acc:Int):=by rw [h4]; simp; omega
         rw [← h5] at hs
         exact hs (iH hq).2
       have hb:(nt.toList == s.toList)=false:=by rw [ip,za]; simp [hs]
       clear hs za
       go_wp2_with fail
       refine (yE.out _).mono ?_
       rintro e w1 ⟨rfl,vD⟩
       go_wp2_with fail
       go_ret2
       exact ⟨by rw [HZ.out]; rfl,vD⟩
   ·have HZ:Hid (cW (bl s)=none):=by
     cases hq:cW (bl s) with
     | none=>rfl
     | some n =>
      exfalso
      obtain ⟨h1,h2,_⟩:=gQ hT hq
      rw [ao] at h1 h2
      exact vG ⟨h1,h2⟩
    have wT:cc (t.size:Int) 1 6=false:=by
     rw [← Bool.not_eq_true,iI]; omega
    clear vG
    go_wp2_with fail
    refine (aH _ _ _ _).mono ?_
    rintro e w' ⟨rfl,rfl⟩
    rw [wT]
    clear wT
    go_wp2_with fail
    go_ret2
    exact ⟨by rw [HZ.out]; rfl,Below.refl _ _⟩
  ·have hT:vn (bl s) (bl s) false:=by
    refine .inr ⟨rfl,rfl,.inl fun h=>h45 ?_⟩
    have h1:=kb (s:=s) (k:=0) oM
    rw [List.drop_zero] at h1
    rw [h1] at h
    simp only [List.head?_cons,Option.some.injEq] at h
    rw [h]; rfl
   have hq:((s[0].toNat:Int) == 45)=false:=by rw [beq_eq_false_iff_ne]; omega
   clear h45
   go_enter Tryz.func135,Tryz.ntmps135
   go_upto_region 4 with fail
   by_cases vG:1≤s.size∧s.size≤6
   ·obtain ⟨Bq,Gs⟩:=vG
    have HT:=jZ hT
    clear hT
    have i1:(1:Int)≤(s.size:Int):=oM
    have i6:(s.size:Int)≤6:=oM
    have wT:cc (s.size:Int) 1 6=true:=iI.2 ⟨i1,i6⟩
    go_wp2_with fail
    refine (aH _ _ _ _).mono ?_
    rintro e w' ⟨rfl,rfl⟩
    rw [wT]
    clear wT
    go_wp2_with fail
    go_loopw [5,6] (fun m i wr=>∃ (k acc:Nat),k≤s.size∧i=O U k∧m=O U acc∧acc < 1000000∧w=wr∧Hid (Lib.decFrom 0 ((bl s).take k)=some acc)) (fun _ i _=>s.size - (intOf i).toNat)
    case atStart=>exact ⟨0,0,Nat.zero_le _,rfl,rfl,oM,rfl,by simp [Lib.decFrom,Hid]⟩
    case round =>
     obtain ⟨k,acc,hk,rfl,rfl,y8,rfl,HD⟩:=hrel
     by_cases vH:k < s.size
     ·by_cases hd:48≤s[k].toNat∧s[k].toNat≤57
      ·obtain ⟨yT,yU⟩:=hd
       have yV:Hid (Lib.decFrom 0 ((bl s).take (k+1))=some (acc * 10+(s[k].toNat - 48))) :=
        Lib.decFrom_take (bl s) k 0 acc s[k] (s[k].toNat - 48) HD.out (List.getElem?_eq_getElem (l:=bl s) vH) (by unfold Lib.digitVal; rw [if_pos ⟨yT,yU⟩])
       have zE:acc * 10+(s[k].toNat - 48) < 1000000:=by
        have h1:=Lib.decFrom_lt _ _ _ yV.out
        have h2:((bl s).take (k+1)).length≤6:=by rw [List.length_take]; omega
        have h3:=Nat.pow_le_pow_right (show 0 < 10 by omega) h2
        omega
       have j1:(48:Int)≤(s[k].toNat:Int):=oM
       have j2:(s[k].toNat:Int)≤57:=oM
       have j3:IntKind.u8.wrap ((s[k].toNat:Int) - 48)=(s[k].toNat:Int) - 48:=IntWalk.u8_in _ oM
       have j4:IntKind.i64.wrap ((s[k].toNat:Int) - 48)=(s[k].toNat:Int) - 48:=IntWalk.i64_in _ oM
       have j5:IntKind.i64.wrap (10 * (acc:Int))=10 * (acc:Int):=IntWalk.i64_in _ oM
       have j6:IntKind.i64.wrap (10 * (acc:Int)+((s[k].toNat:Int) - 48))=10 * (acc:Int)+((s[k].toNat:Int) - 48):=IntWalk.i64_in _ oM
       clear HD y8
       go_wp2_with fail
       go_roundw
       case rel=>exact ⟨k+1,acc * 10+(s[k].toNat - 48),oM,by go_num,by go_num,zE,by first | trivial | rfl,yV⟩
       case measure=>simp [intOf] <;> omega
      ·have HZ:Hid (cW (bl s)=none):=by
        cases hq:cW (bl s) with
        | none=>rfl
        | some n =>
         exfalso
         obtain ⟨_,_,h3,_⟩:=gQ HT.out hq
         obtain ⟨d,Fy⟩:=Lib.digit_of_decFrom _ _ _ h3 k s[k] (List.getElem?_eq_getElem (l:=bl s) vH)
         have:=Lib.digitVal_eq Fy
         omega
       by_cases h48:s[k].toNat < 48
       ·have j1:(s[k].toNat:Int) < 48:=oM
        clear hd
        go_wp2_with fail
        go_ret2
        exact ⟨by rw [HZ.out]; rfl,Below.refl _ _⟩
       ·have j1 : ¬ (s[k].toNat:Int) < 48:=oM
        have j2:(57:Int) < (s[k].toNat:Int):=oM
        clear hd h48
        go_wp2_with fail
        go_ret2
        exact ⟨by rw [HZ.out]; rfl,Below.refl _ _⟩
     ·obtain rfl:k=s.size:=oM
      have HF:Hid (Lib.decFrom 0 (bl s)=some acc):=by
       have h1:=HD.out
       rw [List.take_of_length_le (by rw [ao]; exact Nat.le_refl _)] at h1; exact h1
      clear vH HD
      have yE:Hid (∀ W:World,Calls vx 71 #[O U ((acc:Int))] W fun e w'=>e=.returned (vw ⟨(Lib.itoa ((acc:Int))).toArray⟩)∧Below W.heap.size W w'):=fun W=>lX ((acc:Int)) W oM oM
      obtain ⟨nt,Ak⟩ : ∃ x:ByteArray,x=⟨(Lib.itoa ((acc:Int))).toArray⟩:=⟨_,rfl⟩
      have za:bl nt=Lib.itoa ((acc:Int)):=by rw [Ak,bL]
      rw [← Ak] at yE
      clear Ak
      have j7:IntKind.i64.wrap (-(acc:Int)) = -(acc:Int):=IntWalk.i64_in _ oM
      have j8:True:=trivial
      by_cases hs:Lib.itoa ((acc:Int))=bl s
      ·have HZ:Hid (cW (bl s)=some ((acc:Int))):=mY ⟨oM,oM⟩ hs
       have hb:(nt.toList == s.toList)=true:=by rw [ip,za,hs]; simp
       clear hs za
       go_wp2_with fail
       refine (yE.out _).mono ?_
       rintro e w1 ⟨rfl,vD⟩
       go_wp2_with fail
       go_ret2
       exact ⟨by rw [HZ.out]; rfl,vD⟩
      ·have HZ:Hid (cW (bl s)=none):=by
        cases hq:cW (bl s) with
        | none=>rfl
        | some n =>
         exfalso
         obtain ⟨_,_,h3,h4⟩:=gQ HT.out hq
         rw [HF.out] at h3
         injection h3 with h3
         have h5:n=(acc:Int):=by rw [h4]; simp; omega
         rw [← h5] at hs
         exact hs (iH hq).2
       have hb:(nt.toList == s.toList)=false:=by rw [ip,za]; simp [hs]
       clear hs za
       go_wp2_with fail
       refine (yE.out _).mono ?_
       rintro e w1 ⟨rfl,vD⟩
       go_wp2_with fail
       go_ret2
       exact ⟨by rw [HZ.out]; rfl,vD⟩
   ·have HZ:Hid (cW (bl s)=none):=by
     cases hq:cW (bl s) with
     | none=>rfl
     | some n =>
      exfalso
      obtain ⟨h1,h2,_⟩:=gQ hT hq
      rw [ao] at h1 h2
      exact vG ⟨h1,h2⟩
    have wT:cc (s.size:Int) 1 6=false:=by
     rw [← Bool.not_eq_true,iI]; omega
    clear vG
    go_wp2_with fail
    refine (aH _ _ _ _).mono ?_
    rintro e w' ⟨rfl,rfl⟩
    rw [wT]
    clear wT
    go_wp2_with fail
    go_ret2
    exact ⟨by rw [HZ.out]; rfl,Below.refl _ _⟩
 ·have hi : ¬ (1:Int) < (s.size:Int):=oM
  have hT:vn (bl s) (bl s) false:=.inr ⟨rfl,rfl,.inr (by rw [ao]; omega)⟩
  go_enter Tryz.func135,Tryz.ntmps135
  go_upto_region 4 with fail
  by_cases vG:1≤s.size∧s.size≤6
  ·obtain ⟨Bq,Gs⟩:=vG
   have HT:=jZ hT
   clear hT
   have i1:(1:Int)≤(s.size:Int):=oM
   have i6:(s.size:Int)≤6:=oM
   have wT:cc (s.size:Int) 1 6=true:=iI.2 ⟨i1,i6⟩
   go_wp2_with fail
   refine (aH _ _ _ _).mono ?_
   rintro e w' ⟨rfl,rfl⟩
   rw [wT]
   clear wT
   go_wp2_with fail
   go_loopw [5,6] (fun m i wr=>∃ (k acc:Nat),k≤s.size∧i=O U k∧m=O U acc∧acc < 1000000∧w=wr∧Hid (Lib.decFrom 0 ((bl s).take k)=some acc)) (fun _ i _=>s.size - (intOf i).toNat)
   case atStart=>exact ⟨0,0,Nat.zero_le _,rfl,rfl,oM,rfl,by simp [Lib.decFrom,Hid]⟩
   case round =>
    obtain ⟨k,acc,hk,rfl,rfl,y8,rfl,HD⟩:=hrel
    by_cases vH:k < s.size
    ·by_cases hd:48≤s[k].toNat∧s[k].toNat≤57
     ·obtain ⟨yT,yU⟩:=hd
      have yV:Hid (Lib.decFrom 0 ((bl s).take (k+1))=some (acc * 10+(s[k].toNat - 48))) :=
       Lib.decFrom_take (bl s) k 0 acc s[k] (s[k].toNat - 48) HD.out (List.getElem?_eq_getElem (l:=bl s) vH) (by unfold Lib.digitVal; rw [if_pos ⟨yT,yU⟩])
      have zE:acc * 10+(s[k].toNat - 48) < 1000000:=by
       have h1:=Lib.decFrom_lt _ _ _ yV.out
       have h2:((bl s).take (k+1)).length≤6:=by rw [List.length_take]; omega
       have h3:=Nat.pow_le_pow_right (show 0 < 10 by omega) h2
       omega
      have j1:(48:Int)≤(s[k].toNat:Int):=oM
      have j2:(s[k].toNat:Int)≤57:=oM
      have j3:IntKind.u8.wrap ((s[k].toNat:Int) - 48)=(s[k].toNat:Int) - 48:=IntWalk.u8_in _ oM
      have j4:IntKind.i64.wrap ((s[k].toNat:Int) - 48)=(s[k].toNat:Int) - 48:=IntWalk.i64_in _ oM
      have j5:IntKind.i64.wrap (10 * (acc:Int))=10 * (acc:Int):=IntWalk.i64_in _ oM
      have j6:IntKind.i64.wrap (10 * (acc:Int)+((s[k].toNat:Int) - 48))=10 * (acc:Int)+((s[k].toNat:Int) - 48):=IntWalk.i64_in _ oM
      clear HD y8
      go_wp2_with fail
      go_roundw
      case rel=>exact ⟨k+1,acc * 10+(s[k].toNat - 48),oM,by go_num,by go_num,zE,by first | trivial | rfl,yV⟩
      case measure=>simp [intOf] <;> omega
     ·have HZ:Hid (cW (bl s)=none):=by
       cases hq:cW (bl s) with
       | none=>rfl
       | some n =>
        exfalso
        obtain ⟨_,_,h3,_⟩:=gQ HT.out hq
        obtain ⟨d,Fy⟩:=Lib.digit_of_decFrom _ _ _ h3 k s[k] (List.getElem?_eq_getElem (l:=bl s) vH)
        have:=Lib.digitVal_eq Fy
        omega
      by_cases h48:s[k].toNat < 48
      ·have j1:(s[k].toNat:Int) < 48:=oM
       clear hd
       go_wp2_with fail
       go_ret2
       exact ⟨by rw [HZ.out]; rfl,Below.refl _ _⟩
      ·have j1 : ¬ (s[k].toNat:Int) < 48:=oM
       have j2:(57:Int) < (s[k].toNat:Int):=oM
       clear hd h48
       go_wp2_with fail
       go_ret2
       exact ⟨by rw [HZ.out]; rfl,Below.refl _ _⟩
    ·obtain rfl:k=s.size:=oM
     have HF:Hid (Lib.decFrom 0 (bl s)=some acc):=by
      have h1:=HD.out
      rw [List.take_of_length_le (by rw [ao]; exact Nat.le_refl _)] at h1; exact h1
     clear vH HD
     have yE:Hid (∀ W:World,Calls vx 71 #[O U ((acc:Int))] W fun e w'=>e=.returned (vw ⟨(Lib.itoa ((acc:Int))).toArray⟩)∧Below W.heap.size W w'):=fun W=>lX ((acc:Int)) W oM oM
     obtain ⟨nt,Ak⟩ : ∃ x:ByteArray,x=⟨(Lib.itoa ((acc:Int))).toArray⟩:=⟨_,rfl⟩
     have za:bl nt=Lib.itoa ((acc:Int)):=by rw [Ak,bL]
     rw [← Ak] at yE
     clear Ak
     have j7:IntKind.i64.wrap (-(acc:Int)) = -(acc:Int):=IntWalk.i64_in _ oM
     have j8:True:=trivial
     by_cases hs:Lib.itoa ((acc:Int))=bl s
     ·have HZ:Hid (cW (bl s)=some ((acc:Int))):=mY ⟨oM,oM⟩ hs
      have hb:(nt.toList == s.toList)=true:=by rw [ip,za,hs]; simp
      clear hs za
      go_wp2_with fail
      refine (yE.out _).mono ?_
      rintro e w1 ⟨rfl,vD⟩
      go_wp2_with fail
      go_ret2
      exact ⟨by rw [HZ.out]; rfl,vD⟩
     ·have HZ:Hid (cW (bl s)=none):=by
       cases hq:cW (bl s) with
       | none=>rfl
       | some n =>
        exfalso
        obtain ⟨_,_,h3,h4⟩:=gQ HT.out hq
        rw [HF.out] at h3
        injection h3 with h3
        have h5:n=(acc:Int):=by rw [h4]; simp; omega
        rw [← h5] at hs
        exact hs (iH hq).2
      have hb:(nt.toList == s.toList)=false:=by rw [ip,za]; simp [hs]
      clear hs za
      go_wp2_with fail
      refine (yE.out _).mono ?_
      rintro e w1 ⟨rfl,vD⟩
      go_wp2_with fail
      go_ret2
      exact ⟨by rw [HZ.out]; rfl,vD⟩
  ·have HZ:Hid (cW (bl s)=none):=by
    cases hq:cW (bl s) with
    | none=>rfl
    | some n =>
     exfalso
     obtain ⟨h1,h2,_⟩:=gQ hT hq
     rw [ao] at h1 h2
     exact vG ⟨h1,h2⟩
   have wT:cc (s.size:Int) 1 6=false:=by
    rw [← Bool.not_eq_true,iI]; omega
   clear vG
   go_wp2_with fail
   refine (aH _ _ _ _).mono ?_
   rintro e w' ⟨rfl,rfl⟩
   rw [wT]
   clear wT
   go_wp2_with fail
   go_ret2
   exact ⟨by rw [HZ.out]; rfl,Below.refl _ _⟩
theorem fw.con {w:World} {B:Nat} {x:aO} {l:Lg} {y:Oc} {v:Value} (h:fw w B x l y v):∃ X:aO,v=aI X l:=by
 rcases h with ⟨rfl,_⟩ | ⟨TA,tc,OA,oc,rfl,_,_⟩
 ·exact ⟨x,rfl⟩
 ·exact ⟨y.at TA tc OA oc,rfl⟩
def jw (w:World) (B g:Nat) (x:aO) (l:Lg) (y:Oc):Prop:=∃ X:aO,ah w g 42 [F X.TA X.t.length X.tc,F X.OA X.o.length X.oc,O U X.gt,O U X.sd,O U X.ms,vw l.D,vw l.P,O U l.n]∧fw w B x l y (aI X l)
theorem jw.put {w:World} {B g:Nat} {x X:aO} {l:Lg} {y:Oc} {a0 a1 a2 a3 a4 a5 a6 a7:Value} (hL:ah w g 42 [a0,a1,a2,a3,a4,a5,a6,a7]) (h:fw w B x l y (aI X l)):jw ((((((((w.setCell ⟨g,0,none⟩ (F X.TA X.t.length X.tc)).setCell ⟨g,1,none⟩ (F X.OA X.o.length X.oc)).setCell ⟨g,2,none⟩ (O U X.gt)).setCell ⟨g,3,none⟩ (O U X.sd)).setCell ⟨g,4,none⟩ (O U X.ms)).setCell ⟨g,5,none⟩ (vw l.D)).setCell ⟨g,6,none⟩ (vw l.P)).setCell ⟨g,7,none⟩ (O U l.n)) B g x l y:=by
 have gr:w.grownBy ((((((((w.setCell ⟨g,0,none⟩ (F X.TA X.t.length X.tc)).setCell ⟨g,1,none⟩ (F X.OA X.o.length X.oc)).setCell ⟨g,2,none⟩ (O U X.gt)).setCell ⟨g,3,none⟩ (O U X.sd)).setCell ⟨g,4,none⟩ (O U X.ms)).setCell ⟨g,5,none⟩ (vw l.D)).setCell ⟨g,6,none⟩ (vw l.P)).setCell ⟨g,7,none⟩ (O U l.n)) (some g):=ab (g:=g) (i:=7) (u:=O U l.n) (ab (g:=g) (i:=6) (u:=vw l.P) (ab (g:=g) (i:=5) (u:=vw l.D) (gw5 w g (F X.TA X.t.length X.tc) (F X.OA X.o.length X.oc) (O U X.gt) (O U X.sd) (O U X.ms))))
 exact ⟨X,oh (hL) (F X.TA X.t.length X.tc) (F X.OA X.o.length X.oc) (O U X.gt) (O U X.sd) (O U X.ms) (vw l.D) (vw l.P) (O U l.n),h.kept hL gr⟩
theorem fw.put {w:World} {B g:Nat} {x X:aO} {l:Lg} {y:Oc} {v:Value} {a0 a1 a2 a3 a4 a5 a6 a7:Value} (hL:ah w g 42 [a0,a1,a2,a3,a4,a5,a6,a7]) (h:fw w B x l y v):fw ((((((((w.setCell ⟨g,0,none⟩ (F X.TA X.t.length X.tc)).setCell ⟨g,1,none⟩ (F X.OA X.o.length X.oc)).setCell ⟨g,2,none⟩ (O U X.gt)).setCell ⟨g,3,none⟩ (O U X.sd)).setCell ⟨g,4,none⟩ (O U X.ms)).setCell ⟨g,5,none⟩ (vw l.D)).setCell ⟨g,6,none⟩ (vw l.P)).setCell ⟨g,7,none⟩ (O U l.n)) B x l y v:=by
 have gr:w.grownBy ((((((((w.setCell ⟨g,0,none⟩ (F X.TA X.t.length X.tc)).setCell ⟨g,1,none⟩ (F X.OA X.o.length X.oc)).setCell ⟨g,2,none⟩ (O U X.gt)).setCell ⟨g,3,none⟩ (O U X.sd)).setCell ⟨g,4,none⟩ (O U X.ms)).setCell ⟨g,5,none⟩ (vw l.D)).setCell ⟨g,6,none⟩ (vw l.P)).setCell ⟨g,7,none⟩ (O U l.n)) (some g):=ab (g:=g) (i:=7) (u:=O U l.n) (ab (g:=g) (i:=6) (u:=vw l.P) (ab (g:=g) (i:=5) (u:=vw l.D) (gw5 w g (F X.TA X.t.length X.tc) (F X.OA X.o.length X.oc) (O U X.gt) (O U X.sd) (O U X.ms))))
 exact h.kept hL gr
theorem lY (s:ByteArray) (w:World) (hs:s.size≤1000000000):Calls vx 85 #[vw s] w (jb s w):=by
 have hc:=fun W=>rJ s W hs
 obtain ⟨v,hv⟩ : ∃ v,(cW (bl s)).getD 0=v:=⟨_,rfl⟩
 obtain ⟨b,hb⟩ : ∃ b,(cW (bl s)).isSome=b:=⟨_,rfl⟩
 unfold jb at hc ⊢
 rw [hv,hb] at hc ⊢
 clear hv hb
 go_enter Tryz.func85,Tryz.ntmps85
 go_wp2_with fail
 refine (hc _).mono ?_
 rintro e w1 ⟨rfl,hb⟩
 go_wp2
 go_ret2
 exact ⟨rfl,hb⟩
structure ur (w wx:World) (g8:Nat) (ps:List (List UInt8)) (rest:List Value) (v:Value) (m:List Int):Prop where
 bl:Below w.heap.size w wx
 ws:ah wx g8 9 (eD ps++rest)
 row:wx.ownsRow w.heap.size 3 1 v m.length (bc m)
theorem ur.then {w wx wy:World} {g8:Nat} {ps:List (List UInt8)} {rest:List Value} {v:Value} {m:List Int} (S:ur w wx g8 ps rest v m) (hb:Below wx.heap.size wx wy):ur w wy g8 ps rest v m :=
 ⟨av S.bl hb,S.ws.below hb S.ws.lt,ac S.row hb⟩
theorem ur.push {w wx wz:World} {g8:Nat} {ps:List (List UInt8)} {rest:List Value} {v v' : Value} {m:List Int} {n:Int} (S:ur w wx g8 ps rest v m)
  (ho:wz.ownsRow w.heap.size 3 1 v' (m.length+1) (bc m++[O U n])) (hg:wx.grownBy wz v.ownBlock) (vC:Below w.heap.size wx wz):ur w wz g8 ps rest v' (m++[n]) :=
 ⟨S.bl.trans vC,S.ws.kept hg (bv S.row S.ws dD),by simpa using ho⟩
theorem qC {x:aO} {line:ByteArray} (h:dQ ((aK 32 (bl line)).drop 1)=none):iL x line=none:=by unfold iL; rw [h]; rfl
theorem qD {x:aO} {line:ByteArray} {ns:List Int} (h:dQ ((aK 32 (bl line)).drop 1)=some ns):iL x line=bD x (wd (bl line) 0) ns:=by unfold iL; rw [h]; rfl
theorem nJ {x:aO} {w0:ByteArray} {ns:List Int} (h:ns.length=0):bD x w0 ns=(dn x w0).map (x.c,·):=by
 match ns,h with
 | [],_=>rfl
theorem so {x:aO} {w0:ByteArray} {ns:List Int} (h:ns.length=1) (h0:0 < ns.length):bD x w0 ns=(gH x w0 ns[0]).map (x.c,·):=by
 match ns,h with
 | [a],_=>rfl
theorem uL {x:aO} {w0:ByteArray} {ns:List Int} (h:ns.length=2) (h0:0 < ns.length) (h1:1 < ns.length):bD x w0 ns=(cH w0 ns[0] ns[1]).bind (bW x):=by
 match ns,h with
 | [a,b],_=>rfl
theorem tj {x:aO} {w0:ByteArray} {ns:List Int} (h:ns.length=3) (h0:0 < ns.length) (h1:1 < ns.length) (h2:2 < ns.length):bD x w0 ns=(dr w0 ns[0] ns[1] ns[2]).bind (bW x):=by
 match ns,h with
 | [a,b,c],_=>rfl
theorem qE {x:aO} {w0:ByteArray} {ns:List Int} (h:4≤ns.length):bD x w0 ns=none:=by
 match ns,h with
 | a :: b :: c :: d :: l,_=>rfl
theorem lw {x:aO} (R:Option ByteArray):fx x (R.map (x.c,·))=x.c:=by cases R <;> rfl
theorem qF {x:aO} (R:Option ByteArray):js (R.map (x.c,·))=R.getD cJ:=by cases R <;> rfl
set_option maxRecDepth 100000 in
theorem rK (x:aO) (l:Lg) (s:ByteArray) (a b:Int) (w:World) (h:aP w w.heap.size x) (vM:x.t.length≤x.tc) :
  Calls vx 88 #[aI x l,vw s,O U a,O U b] w (bo w x l ((cH s a b).bind (bW x))):=by
 have L1:=(ah.new w 42 #[F x.TA x.t.length x.tc,F x.OA x.o.length x.oc,O U x.gt,O U x.sd,O U x.ms,vw l.D,vw l.P,O U l.n]).alloc (.cells #[F none 0 0,F none 0 0,O U 0,O U 0,O U 0,vw ⟨#[]⟩,vw ⟨#[]⟩,O U 0] 42)
 have L2:=ah.new1 w (.cells #[F x.TA x.t.length x.tc,F x.OA x.o.length x.oc,O U x.gt,O U x.sd,O U x.ms,vw l.D,vw l.P,O U l.n] 42) 42 #[F none 0 0,F none 0 0,O U 0,O U 0,O U 0,vw ⟨#[]⟩,vw ⟨#[]⟩,O U 0]
 have b1:=bZ w (.cells #[F x.TA x.t.length x.tc,F x.OA x.o.length x.oc,O U x.gt,O U x.sd,O U x.ms,vw l.D,vw l.P,O U l.n] 42)
 have b2:=b1.alloc b1.size (.cells #[F none 0 0,F none 0 0,O U 0,O U 0,O U 0,vw ⟨#[]⟩,vw ⟨#[]⟩,O U 0] 42)
 have hW:=h.up b2 nR
 have we:w.heap.size≤w.heap.size+1:=oM
 clear b1
 by_cases h0:s=⟨#[103,101,116]⟩
 ·subst h0
  have HR:(cH ⟨#[103,101,116]⟩ a b).bind (bW x)=bW x ⟨1,a,0,b⟩:=by unfold cH; rw [if_pos rfl]; rfl
  rw [HR]
  clear HR
  have hc:=fun W hW=>fM x l ⟨1,a,0,b⟩ W hW vM
  obtain ⟨R,hR⟩ : ∃ R,bW x ⟨1,a,0,b⟩=R:=⟨_,rfl⟩
  rw [hR] at hc ⊢
  clear hR
  obtain ⟨T,hT⟩ : ∃ T,js R=T:=⟨_,rfl⟩
  unfold bo at hc
  rw [hT] at hc
  go_enter Tryz.func88,Tryz.ntmps88
  go_upto_region 3 with fail
  generalize ((w.alloc (.cells #[F x.TA x.t.length x.tc,F x.OA x.o.length x.oc,O U x.gt,O U x.sd,O U x.ms,vw l.D,vw l.P,O U l.n] 42)).alloc (.cells #[F none 0 0,F none 0 0,O U 0,O U 0,O U 0,vw ⟨#[]⟩,vw ⟨#[]⟩,O U 0] 42))=W at L1 L2 b2 hW ⊢
  obtain ⟨c0,c1,c2,c3,c4,c5,c6,c7⟩:=cells8 L1
  go_wp2_with fail
  refine (hc W hW).mono ?_
  rintro e W1 ⟨v,rfl,hv,hb⟩
  obtain ⟨X,rfl⟩:=hv.con
  have K2:=L2.below hb L2.lt
  have b3:=b2.trans (hb.mono (b2).size)
  have wj:=hv.lower (b2).size
  obtain ⟨z0,z1,z2,z3,z4,z5,z6,z7⟩:=cells8 K2
  obtain ⟨f0,f1,f2,f3,f4,f5,f6,f7⟩:=frz8 K2
  have wb:=jZ (fw.put (X:=X) K2 wj)
  have wI:=jZ (eO (g:=w.heap.size+1) (b3) we (F X.TA X.t.length X.tc) (F X.OA X.o.length X.oc) (O U X.gt) (O U X.sd) (O U X.ms) (vw l.D) (vw l.P) (O U l.n))
  clear K2 b3 hv wj hb c0 c1 c2 c3 c4 c5 c6 c7
  go_wp2_with fail
  refine bodyPost_ret (v:=.tuple #[aI X l,vw T]) (by simp [results,Tryz.results88,go_sem, *]) rfl (bo.mk hT wb.out wI.out)
 have f0:(s.toList == [103,101,116])=false:=bT h0
 by_cases h1:s=⟨#[109,105,115,115]⟩
 ·subst h1
  have HR:(cH ⟨#[109,105,115,115]⟩ a b).bind (bW x)=bW x ⟨5,a,b,0⟩:=by unfold cH; rw [if_neg dD,if_pos rfl]; rfl
  rw [HR]
  clear HR
  have hc:=fun W hW=>fM x l ⟨5,a,b,0⟩ W hW vM
  obtain ⟨R,hR⟩ : ∃ R,bW x ⟨5,a,b,0⟩=R:=⟨_,rfl⟩
  rw [hR] at hc ⊢
  clear hR
  obtain ⟨T,hT⟩ : ∃ T,js R=T:=⟨_,rfl⟩
  unfold bo at hc
  rw [hT] at hc
  go_enter Tryz.func88,Tryz.ntmps88
  go_upto_region 5 with fail
  generalize ((w.alloc (.cells #[F x.TA x.t.length x.tc,F x.OA x.o.length x.oc,O U x.gt,O U x.sd,O U x.ms,vw l.D,vw l.P,O U l.n] 42)).alloc (.cells #[F none 0 0,F none 0 0,O U 0,O U 0,O U 0,vw ⟨#[]⟩,vw ⟨#[]⟩,O U 0] 42))=W at L1 L2 b2 hW ⊢
  obtain ⟨c0,c1,c2,c3,c4,c5,c6,c7⟩:=cells8 L1
  go_wp2_with fail
  refine (hc W hW).mono ?_
  rintro e W1 ⟨v,rfl,hv,hb⟩
  obtain ⟨X,rfl⟩:=hv.con
  have K2:=L2.below hb L2.lt
  have b3:=b2.trans (hb.mono (b2).size)
  have wj:=hv.lower (b2).size
  obtain ⟨z0,z1,z2,z3,z4,z5,z6,z7⟩:=cells8 K2
  obtain ⟨f0,f1,f2,f3,f4,f5,f6,f7⟩:=frz8 K2
  have wb:=jZ (fw.put (X:=X) K2 wj)
  have wI:=jZ (eO (g:=w.heap.size+1) (b3) we (F X.TA X.t.length X.tc) (F X.OA X.o.length X.oc) (O U X.gt) (O U X.sd) (O U X.ms) (vw l.D) (vw l.P) (O U l.n))
  clear K2 b3 hv wj hb c0 c1 c2 c3 c4 c5 c6 c7
  go_wp2_with fail
  refine bodyPost_ret (v:=.tuple #[aI X l,vw T]) (by simp [results,Tryz.results88,go_sem, *]) rfl (bo.mk hT wb.out wI.out)
 have f1:(s.toList == [109,105,115,115])=false:=bT h1
 have HR:Hid ((cH s a b).bind (bW x)=none):=by unfold Hid cH; rw [if_neg h0,if_neg h1]; rfl
 clear h0 h1
 go_enter Tryz.func88,Tryz.ntmps88
 go_upto_region 6 with fail
 generalize ((w.alloc (.cells #[F x.TA x.t.length x.tc,F x.OA x.o.length x.oc,O U x.gt,O U x.sd,O U x.ms,vw l.D,vw l.P,O U l.n] 42)).alloc (.cells #[F none 0 0,F none 0 0,O U 0,O U 0,O U 0,vw ⟨#[]⟩,vw ⟨#[]⟩,O U 0] 42))=W at L1 L2 b2 hW ⊢
 obtain ⟨c0,c1,c2,c3,c4,c5,c6,c7⟩:=cells8 L1
 obtain ⟨z0,z1,z2,z3,z4,z5,z6,z7⟩:=cells8 L2
 obtain ⟨f0,f1,f2,f3,f4,f5,f6,f7⟩:=frz8 L2
 have bz:=jZ (eO (g:=w.heap.size+1) (b2) we (F x.TA x.t.length x.tc) (F x.OA x.o.length x.oc) (O U x.gt) (O U x.sd) (O U x.ms) (vw l.D) (vw l.P) (O U l.n))
 clear L1 L2 b2 hW
 go_wp2
 refine bodyPost_ret (v:=.tuple #[aI x l,vw ⟨#[63]⟩]) (by simp [results,Tryz.results88,go_sem, *]) rfl (by rw [HR.out]; exact ⟨_,rfl,.inl ⟨rfl,rfl⟩,bz.out⟩)
theorem nN {s:List UInt8} {n:Int} (h:cW s=some n):Lib.atoiAll s=.ok n:=by
 obtain ⟨h1,h2⟩:=iH h
 rw [← h2]; exact qw h1
theorem pA (s:ByteArray) (w:World) (hs:s.size≤1000000000) (hL:LW w) :
  Calls vx 96 #[vw s] w (jb s w):=by
 rcases ha:Lib.atoiAll s.data.toList with v | _ | _
 ·skip
  obtain ⟨v0,v1⟩:=Lib.atoiAll_bounds ha
  have HA:=jZ (Tryz.strconv_Atoi_ok s oM v ha w)
  have hv:∀ n,cW (bl s)=some n→n=v:=fun n hn=>by
   have h1:=nN hn
   have h2:Lib.atoiAll (bl s)=.ok v:=ha
   rw [h2] at h1; injection h1 with h1; exact h1.symm
  by_cases hr:cc v (-999999) 999999=true
  ·have LZ:=iI.1 hr
   have HI:Hid (∀ W,iN W→Calls vx 69 #[O U v] W fun e w'=>e=.returned (vw ⟨(Lib.itoa v).toArray⟩)∧Below W.heap.size W w'):=fun W hW=>dw v W v0 v1 hW
   obtain ⟨nt,Ak⟩ : ∃ x:ByteArray,x=⟨(Lib.itoa v).toArray⟩:=⟨_,rfl⟩
   have za:bl nt=Lib.itoa v:=by rw [Ak,bL]
   rw [← Ak] at HI
   clear Ak
   have HZ:Hid ((nt.toList == s.toList)=(cW (bl s)).isSome∧((nt.toList == s.toList)=true→cW (bl s)=some v)∧((nt.toList == s.toList)=false→cW (bl s)=none)):=by
    rw [ip,za]
    by_cases hq:Lib.itoa v=bl s
    ·have h1:=mY (n:=v) ⟨oM,oM⟩ hq
     rw [h1]; simp [hq,Hid]
    ·have h1:cW (bl s)=none:=by
      cases Ju:cW (bl s) with
      | none=>rfl
      | some n=>exfalso; have h2:=hv n Ju; subst h2; exact hq (iH Ju).2
     rw [h1]; simp [hq,Hid]
   clear za hv
   obtain ⟨bb,xy⟩ : ∃ b:Bool,(nt.toList == s.toList)=b:=⟨_,rfl⟩
   rw [xy] at HZ
   have fin:∀ w2,Below w.heap.size w w2→Hid (LW w2):=fun w2 h2=>hL.then h2
   go_enter Tryz.func96,Tryz.ntmps96
   go_wp2_with fail
   refine HA.out.mono ?_
   rintro e w1 ⟨rfl,zV⟩
   have vD:Below w.heap.size w w1:=by
    rcases zV with rfl | ⟨t,rfl⟩
    ·exact Below.refl _ _
    ·exact Lib.bytesWorld_below _ _ _
   have AB:=fin w1 vD
   clear zV fin
   go_wp2_with fail
   refine (aM _ _ _ _).mono ?_
   rintro e w' ⟨rfl,rfl⟩
   rw [hr]
   go_wp2_with fail
   refine (HI.out _ AB.out.tab).mono ?_
   rintro e w2 ⟨rfl,vC⟩
   have HB:=jZ (av vD vC)
   clear vD vC AB
   cases bb
   ·go_wp2_with fail
    go_ret2
    exact ⟨by rw [HZ.out.2.2 (by first | trivial | rfl)]; rfl,HB.out⟩
   ·go_wp2_with fail
    go_ret2
    exact ⟨by rw [HZ.out.2.1 (by first | trivial | rfl)]; rfl,HB.out⟩
  ·have HZ:Hid (cW (bl s)=none):=by
    cases hq:cW (bl s) with
    | none=>rfl
    | some n =>
     exfalso
     have h2:=hv n hq; subst h2
     obtain ⟨h3,_⟩:=iH hq
     exact hr (iI.2 ⟨h3.1,h3.2⟩)
   have hr' : cc v (-999999) 999999=false:=by simpa using hr
   clear hv hr
   go_enter Tryz.func96,Tryz.ntmps96
   go_wp2_with fail
   refine HA.out.mono ?_
   rintro e w1 ⟨rfl,zV⟩
   have vD:Below w.heap.size w w1:=by
    rcases zV with rfl | ⟨t,rfl⟩
    ·exact Below.refl _ _
    ·exact Lib.bytesWorld_below _ _ _
   clear zV
   go_wp2_with fail
   refine (aM _ _ _ _).mono ?_
   rintro e w' ⟨rfl,rfl⟩
   rw [hr']
   go_wp2_with fail
   go_ret2
   exact ⟨by rw [HZ.out]; rfl,vD⟩
 ·skip
  have HZ:Hid (cW (bl s)=none):=by
   cases hq:cW (bl s) with
   | none=>rfl
   | some n=>exfalso; have h1:=nN hq; rw [show Lib.atoiAll (bl s)=_ from ha] at h1; cases h1
  obtain ⟨ev,FO,Cy⟩:=hL.syn
  have HA:=jZ (Tryz.strconv_Atoi_syntax s oM ha ev w FO Cy)
  clear FO Cy
  go_enter Tryz.func96,Tryz.ntmps96
  go_wp2_with fail
  refine HA.out.mono ?_
  rintro e w1 ⟨N,rfl,_,_,vD⟩
  go_wp2_with fail
  go_ret2
  exact ⟨by rw [HZ.out]; rfl,vD⟩
 ·skip
  have HZ:Hid (cW (bl s)=none):=by
   cases hq:cW (bl s) with
   | none=>rfl
   | some n=>exfalso; have h1:=nN hq; rw [show Lib.atoiAll (bl s)=_ from ha] at h1; cases h1
  obtain ⟨ev,FO,Cy⟩:=hL.rng
  have HA:=jZ (Tryz.strconv_Atoi_range s oM ha ev w FO Cy)
  clear FO Cy
  go_enter Tryz.func96,Tryz.ntmps96
  go_wp2_with fail
  refine HA.out.mono ?_
  rintro e w1 ⟨N,rfl,_,_,vD⟩
  go_wp2_with fail
  go_ret2
  exact ⟨by rw [HZ.out]; rfl,vD⟩
end Go.Proofs.YtoeoimhemojdeaaGreatDoor
