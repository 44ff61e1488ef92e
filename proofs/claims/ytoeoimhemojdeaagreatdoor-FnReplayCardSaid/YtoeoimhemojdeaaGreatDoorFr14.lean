/- Lemmas. -/
import Derived.Deep.DeepCutAuto
import Derived.Shelf.Strings.OnBuilder
import Derived.Test.YtoeoimhemojdeaaGreatDoorProg
import Derived.Lib.AtoiErrMem
import Derived.Test.YtoeoimhemojdeaaGreatDoorFr13

set_option linter.unusedVariables false
set_option linter.unusedSimpArgs false
set_option maxHeartbeats 8000000
open Go.Value renaming int → O, slice → F, string → xh
open Go.IntKind renaming i64 → U
open Go.Proofs.Tryz renaming prog → xi

namespace Go.Proofs.YtoeoimhemojdeaaGreatDoor
open Go.RowKit
theorem iM (a b:ByteArray):(a.toList == b.toList)=decide (bl a=bl b):=by
 rw [ByteArray.toList_eq a,ByteArray.toList_eq b,Bool.eq_iff_iff]; simp [bl]
def wZ (s t:List UInt8) (neg:Bool):Prop:=(neg=true∧s=45 :: t∧1≤t.length) ∨ (neg=false∧s=t∧(s.head? ≠ some 45 ∨ s.length≤1))
theorem il {s t:List UInt8} {neg:Bool} (h:wZ s t neg) {n:Int} (hq:df s=some n):1≤t.length∧t.length≤6∧Lib.decFrom 0 t=some n.natAbs∧n=(if neg=true then -(n.natAbs:Int) else (n.natAbs:Int)):=by
 obtain ⟨h6,e⟩:=jc hq
 rcases vH h6 e with ⟨h1,t',h2,h3,h4,h5⟩ | ⟨h1,h2,h3,h4,h5⟩
 ·rcases h with ⟨rfl,h7,h8⟩ | ⟨rfl,h7,h8⟩
  ·rw [h2] at h7; injection h7 with _ h7; subst h7
   exact ⟨h3,h4,h5,by simp; omega⟩
  ·exfalso
   rcases h8 with h8 | h8
   ·rw [h2] at h8; exact h8 rfl
   ·rw [h2] at h8; simp only [List.length_cons] at h8; omega
 ·rcases h with ⟨rfl,h7,h8⟩ | ⟨rfl,h7,h8⟩
  ·exfalso; rw [h7] at h2; exact h2 rfl
  ·subst h7; exact ⟨h3,h4,h5,by simp; omega⟩
set_option maxRecDepth 100000 in
theorem sU (s:ByteArray) (w:World) (hs:s.size≤1000000000) :
  Calls xi 135 #[xh s] w (jy s w):=by
 by_cases xY:1 < s.size
 ·have hi:(1:Int) < (s.size:Int):=oM
  by_cases h45:s[0].toNat=45
  ·have hT:wZ (bl s) (bl (s.extract 1 s.size)) true:=by
    refine .inl ⟨rfl, ?_, ?_⟩
    ·have h1:=kG (s:=s) (k:=0) oM
     rw [bH,List.take_of_length_le (by rw [ao]; exact Nat.le_refl _)]
     have h2:s[0]=45:=UInt8.toNat_inj.1 h45
     rw [List.drop_zero,h2] at h1; exact h1
    ·rw [bH,List.length_drop,List.length_take,ao]; omega
   obtain ⟨t,ht⟩ : ∃ t,s.extract 1 s.size=t:=⟨_,rfl⟩
   have DT:t.size+1=s.size:=by rw [← ht,← ao,bH,List.length_drop,List.length_take,ao]; omega
   rw [ht] at hT
   have hq:((s[0].toNat:Int) == 45)=true:=by simp; omega
   have No:=jZ h45
   clear h45
   go_enter Tryz.func135,Tryz.ntmps135
   go_upto_region 4 with fail
   clear ht
   by_cases xt:1≤t.size∧t.size≤6
   ·obtain ⟨Cq,IZ⟩:=xt
    have HT:=jZ hT
    clear hT
    have i1:(1:Int)≤(t.size:Int):=oM
    have i6:(t.size:Int)≤6:=oM
    have yw:bX (t.size:Int) 1 6=true:=jd.2 ⟨i1,i6⟩
    go_wp2_with fail
    refine (aI _ _ _ _).mono ?_
    rintro e w' ⟨rfl,rfl⟩
    rw [yw]
    clear yw
    go_wp2_with fail
    go_loopw [5,6] (fun m i wr=>∃ (k acc:Nat),k≤t.size∧i=O U k∧m=O U acc∧acc < 1000000∧w=wr∧Hid (Lib.decFrom 0 ((bl t).take k)=some acc)) (fun _ i _=>t.size - (intOf i).toNat)
    case atStart=>exact ⟨0,0,Nat.zero_le _,rfl,rfl,oM,rfl,by simp [Lib.decFrom,Hid]⟩
    case round =>
     obtain ⟨k,acc,hk,rfl,rfl,AS,rfl,HD⟩:=hrel
     by_cases xu:k < t.size
     ·by_cases hd:48≤t[k].toNat∧t[k].toNat≤57
      ·obtain ⟨AG,AH⟩:=hd
       have Ar:Hid (Lib.decFrom 0 ((bl t).take (k+1))=some (acc * 10+(t[k].toNat - 48))) :=
        Lib.decFrom_take (bl t) k 0 acc t[k] (t[k].toNat - 48) HD.out (List.getElem?_eq_getElem (l:=bl t) xu) (by unfold Lib.digitVal; rw [if_pos ⟨AG,AH⟩])
       have BA:acc * 10+(t[k].toNat - 48) < 1000000:=by
        have h1:=Lib.decFrom_lt _ _ _ Ar.out
        have h2:((bl t).take (k+1)).length≤6:=by rw [List.length_take]; omega
        have h3:=Nat.pow_le_pow_right (show 0 < 10 by omega) h2
        omega
       have j1:(48:Int)≤(t[k].toNat:Int):=oM
       have j2:(t[k].toNat:Int)≤57:=oM
       have j3:IntKind.u8.wrap ((t[k].toNat:Int) - 48)=(t[k].toNat:Int) - 48:=IntWalk.u8_in _ oM
       have j4:IntKind.i64.wrap ((t[k].toNat:Int) - 48)=(t[k].toNat:Int) - 48:=IntWalk.i64_in _ oM
       have j5:IntKind.i64.wrap (10 * (acc:Int))=10 * (acc:Int):=IntWalk.i64_in _ oM
       have j6:IntKind.i64.wrap (10 * (acc:Int)+((t[k].toNat:Int) - 48))=10 * (acc:Int)+((t[k].toNat:Int) - 48):=IntWalk.i64_in _ oM
       clear HD AS
       go_wp2_with fail
       go_roundw
       case rel=>exact ⟨k+1,acc * 10+(t[k].toNat - 48),oM,by go_num,by go_num,BA,by first | trivial | rfl,Ar⟩
       case measure=>simp [intOf] <;> omega
      ·have HZ:Hid (df (bl s)=none):=by
        cases hq:df (bl s) with
        | none=>rfl
        | some n =>
         exfalso
         obtain ⟨_,_,h3,_⟩:=il HT.out hq
         obtain ⟨d,Hu⟩:=Lib.digit_of_decFrom _ _ _ h3 k t[k] (List.getElem?_eq_getElem (l:=bl t) xu)
         have:=Lib.digitVal_eq Hu
         omega
       by_cases h48:t[k].toNat < 48
       ·have j1:(t[k].toNat:Int) < 48:=oM
        clear hd
        go_wp2_with fail
        go_ret2
        exact ⟨by rw [HZ.out]; rfl,Below.refl _ _⟩
       ·have j1 : ¬ (t[k].toNat:Int) < 48:=oM
        have j2:(57:Int) < (t[k].toNat:Int):=oM
        clear hd h48
        go_wp2_with fail
        go_ret2
        exact ⟨by rw [HZ.out]; rfl,Below.refl _ _⟩
     ·obtain rfl:k=t.size:=oM
      have HF:Hid (Lib.decFrom 0 (bl t)=some acc):=by
       have h1:=HD.out
       rw [List.take_of_length_le (by rw [ao]; exact Nat.le_refl _)] at h1; exact h1
      clear xu HD
      have Ai:Hid (∀ W:World,Calls xi 71 #[O U (-(acc:Int))] W fun e w'=>e=.returned (xh ⟨(Lib.itoa (-(acc:Int))).toArray⟩)∧Below W.heap.size W w'):=fun W=>mG (-(acc:Int)) W oM oM
      obtain ⟨nt,Cf⟩ : ∃ x:ByteArray,x=⟨(Lib.itoa (-(acc:Int))).toArray⟩:=⟨_,rfl⟩
      have AU:bl nt=Lib.itoa (-(acc:Int)):=by rw [Cf,bO]
      rw [← Cf] at Ai
      clear Cf
      have j7:IntKind.i64.wrap (-(acc:Int)) = -(acc:Int):=IntWalk.i64_in _ oM
      have j8:(t.size:Int) < (s.size:Int):=oM
      by_cases hs:Lib.itoa (-(acc:Int))=bl s
      ·have HZ:Hid (df (bl s)=some (-(acc:Int))):=nI ⟨oM,oM⟩ hs
       have hb:(nt.toList == s.toList)=true:=by rw [iM,AU,hs]; simp
       clear hs AU
       go_wp2_with fail
       refine (Ai.out _).mono ?_
       rintro e w1 ⟨rfl,xp⟩
       go_wp2_with fail
       go_ret2
       exact ⟨by rw [HZ.out]; rfl,xp⟩
      ·have HZ:Hid (df (bl s)=none):=by
        cases hq:df (bl s) with
        | none=>rfl
        | some n =>
         exfalso
         obtain ⟨_,_,h3,h4⟩:=il HT.out hq
         rw [HF.out] at h3
         injection h3 with h3
         have h5:n = -(acc:Int):=by rw [h4]; simp; omega
         rw [← h5] at hs
         exact hs (jc hq).2
       have hb:(nt.toList == s.toList)=false:=by rw [iM,AU]; simp [hs]
       clear hs AU
       go_wp2_with fail
       refine (Ai.out _).mono ?_
       rintro e w1 ⟨rfl,xp⟩
       go_wp2_with fail
       go_ret2
       exact ⟨by rw [HZ.out]; rfl,xp⟩
   ·have HZ:Hid (df (bl s)=none):=by
     cases hq:df (bl s) with
     | none=>rfl
     | some n =>
      exfalso
      obtain ⟨h1,h2,_⟩:=il hT hq
      rw [ao] at h1 h2
      exact xt ⟨h1,h2⟩
    have yw:bX (t.size:Int) 1 6=false:=by
     rw [← Bool.not_eq_true,jd]; omega
    clear xt
    go_wp2_with fail
    refine (aI _ _ _ _).mono ?_
    rintro e w' ⟨rfl,rfl⟩
    rw [yw]
    clear yw
    go_wp2_with fail
    go_ret2
    exact ⟨by rw [HZ.out]; rfl,Below.refl _ _⟩
  ·have hT:wZ (bl s) (bl s) false:=by
    refine .inr ⟨rfl,rfl,.inl fun h=>h45 ?_⟩
    have h1:=kG (s:=s) (k:=0) oM
    rw [List.drop_zero] at h1
    rw [h1] at h
    simp only [List.head?_cons,Option.some.injEq] at h
    rw [h]; rfl
   have hq:((s[0].toNat:Int) == 45)=false:=by rw [beq_eq_false_iff_ne]; omega
   clear h45
   go_enter Tryz.func135,Tryz.ntmps135
   go_upto_region 4 with fail
   by_cases xt:1≤s.size∧s.size≤6
   ·obtain ⟨Cq,IZ⟩:=xt
    have HT:=jZ hT
    clear hT
    have i1:(1:Int)≤(s.size:Int):=oM
    have i6:(s.size:Int)≤6:=oM
    have yw:bX (s.size:Int) 1 6=true:=jd.2 ⟨i1,i6⟩
    go_wp2_with fail
    refine (aI _ _ _ _).mono ?_
    rintro e w' ⟨rfl,rfl⟩
    rw [yw]
    clear yw
    go_wp2_with fail
    go_loopw [5,6] (fun m i wr=>∃ (k acc:Nat),k≤s.size∧i=O U k∧m=O U acc∧acc < 1000000∧w=wr∧Hid (Lib.decFrom 0 ((bl s).take k)=some acc)) (fun _ i _=>s.size - (intOf i).toNat)
    case atStart=>exact ⟨0,0,Nat.zero_le _,rfl,rfl,oM,rfl,by simp [Lib.decFrom,Hid]⟩
    case round =>
     obtain ⟨k,acc,hk,rfl,rfl,AS,rfl,HD⟩:=hrel
     by_cases xu:k < s.size
     ·by_cases hd:48≤s[k].toNat∧s[k].toNat≤57
      ·obtain ⟨AG,AH⟩:=hd
       have Ar:Hid (Lib.decFrom 0 ((bl s).take (k+1))=some (acc * 10+(s[k].toNat - 48))) :=
        Lib.decFrom_take (bl s) k 0 acc s[k] (s[k].toNat - 48) HD.out (List.getElem?_eq_getElem (l:=bl s) xu) (by unfold Lib.digitVal; rw [if_pos ⟨AG,AH⟩])
       have BA:acc * 10+(s[k].toNat - 48) < 1000000:=by
        have h1:=Lib.decFrom_lt _ _ _ Ar.out
        have h2:((bl s).take (k+1)).length≤6:=by rw [List.length_take]; omega
        have h3:=Nat.pow_le_pow_right (show 0 < 10 by omega) h2
        omega
       have j1:(48:Int)≤(s[k].toNat:Int):=oM
       have j2:(s[k].toNat:Int)≤57:=oM
       have j3:IntKind.u8.wrap ((s[k].toNat:Int) - 48)=(s[k].toNat:Int) - 48:=IntWalk.u8_in _ oM
       have j4:IntKind.i64.wrap ((s[k].toNat:Int) - 48)=(s[k].toNat:Int) - 48:=IntWalk.i64_in _ oM
       have j5:IntKind.i64.wrap (10 * (acc:Int))=10 * (acc:Int):=IntWalk.i64_in _ oM
       have j6:IntKind.i64.wrap (10 * (acc:Int)+((s[k].toNat:Int) - 48))=10 * (acc:Int)+((s[k].toNat:Int) - 48):=IntWalk.i64_in _ oM
       clear HD AS
       go_wp2_with fail
       go_roundw
       case rel=>exact ⟨k+1,acc * 10+(s[k].toNat - 48),oM,by go_num,by go_num,BA,by first | trivial | rfl,Ar⟩
       case measure=>simp [intOf] <;> omega
      ·have HZ:Hid (df (bl s)=none):=by
        cases hq:df (bl s) with
        | none=>rfl
        | some n =>
         exfalso
         obtain ⟨_,_,h3,_⟩:=il HT.out hq
         obtain ⟨d,Hu⟩:=Lib.digit_of_decFrom _ _ _ h3 k s[k] (List.getElem?_eq_getElem (l:=bl s) xu)
         have:=Lib.digitVal_eq Hu
         omega
       by_cases h48:s[k].toNat < 48
       ·have j1:(s[k].toNat:Int) < 48:=oM
        clear hd
        go_wp2_with fail
        go_ret2
        exact ⟨by rw [HZ.out]; rfl,Below.refl _ _⟩
       ·have j1 : ¬ (s[k].toNat:Int) < 48:=oM
        have j2:(57:Int) < (s[k].toNat:Int):=oM
        clear hd h48
        go_wp2_with fail
        go_ret2
        exact ⟨by rw [HZ.out]; rfl,Below.refl _ _⟩
     ·obtain rfl:k=s.size:=oM
      have HF:Hid (Lib.decFrom 0 (bl s)=some acc):=by
       have h1:=HD.out
       rw [List.take_of_length_le (by rw [ao]; exact Nat.le_refl _)] at h1; exact h1
      clear xu HD
      have Ai:Hid (∀ W:World,Calls xi 71 #[O U ((acc:Int))] W fun e w'=>e=.returned (xh ⟨(Lib.itoa ((acc:Int))).toArray⟩)∧Below W.heap.size W w'):=fun W=>mG ((acc:Int)) W oM oM
      obtain ⟨nt,Cf⟩ : ∃ x:ByteArray,x=⟨(Lib.itoa ((acc:Int))).toArray⟩:=⟨_,rfl⟩
      have AU:bl nt=Lib.itoa ((acc:Int)):=by rw [Cf,bO]
      rw [← Cf] at Ai
      clear Cf
      have j7:IntKind.i64.wrap (-(acc:Int)) = -(acc:Int):=IntWalk.i64_in _ oM
      have j8:True:=trivial
      by_cases hs:Lib.itoa ((acc:Int))=bl s
      ·have HZ:Hid (df (bl s)=some ((acc:Int))):=nI ⟨oM,oM⟩ hs
       have hb:(nt.toList == s.toList)=true:=by rw [iM,AU,hs]; simp
       clear hs AU
       go_wp2_with fail
       refine (Ai.out _).mono ?_
       rintro e w1 ⟨rfl,xp⟩
       go_wp2_with fail
       go_ret2
       exact ⟨by rw [HZ.out]; rfl,xp⟩
      ·have HZ:Hid (df (bl s)=none):=by
        cases hq:df (bl s) with
        | none=>rfl
        | some n =>
         exfalso
         obtain ⟨_,_,h3,h4⟩:=il HT.out hq
         rw [HF.out] at h3
         injection h3 with h3
         have h5:n=(acc:Int):=by rw [h4]; simp; omega
         rw [← h5] at hs
         exact hs (jc hq).2
       have hb:(nt.toList == s.toList)=false:=by rw [iM,AU]; simp [hs]
       clear hs AU
       go_wp2_with fail
       refine (Ai.out _).mono ?_
       rintro e w1 ⟨rfl,xp⟩
       go_wp2_with fail
       go_ret2
       exact ⟨by rw [HZ.out]; rfl,xp⟩
   ·have HZ:Hid (df (bl s)=none):=by
     cases hq:df (bl s) with
     | none=>rfl
     | some n =>
      exfalso
      obtain ⟨h1,h2,_⟩:=il hT hq
      rw [ao] at h1 h2
      exact xt ⟨h1,h2⟩
    have yw:bX (s.size:Int) 1 6=false:=by
     rw [← Bool.not_eq_true,jd]; omega
    clear xt
    go_wp2_with fail
    refine (aI _ _ _ _).mono ?_
    rintro e w' ⟨rfl,rfl⟩
    rw [yw]
    clear yw
    go_wp2_with fail
    go_ret2
    exact ⟨by rw [HZ.out]; rfl,Below.refl _ _⟩
 ·have hi : ¬ (1:Int) < (s.size:Int):=oM
  have hT:wZ (bl s) (bl s) false:=.inr ⟨rfl,rfl,.inr (by rw [ao]; omega)⟩
  go_enter Tryz.func135,Tryz.ntmps135
  go_upto_region 4 with fail
  by_cases xt:1≤s.size∧s.size≤6
  ·obtain ⟨Cq,IZ⟩:=xt
   have HT:=jZ hT
   clear hT
   have i1:(1:Int)≤(s.size:Int):=oM
   have i6:(s.size:Int)≤6:=oM
   have yw:bX (s.size:Int) 1 6=true:=jd.2 ⟨i1,i6⟩
   go_wp2_with fail
   refine (aI _ _ _ _).mono ?_
   rintro e w' ⟨rfl,rfl⟩
   rw [yw]
   clear yw
   go_wp2_with fail
   go_loopw [5,6] (fun m i wr=>∃ (k acc:Nat),k≤s.size∧i=O U k∧m=O U acc∧acc < 1000000∧w=wr∧Hid (Lib.decFrom 0 ((bl s).take k)=some acc)) (fun _ i _=>s.size - (intOf i).toNat)
   case atStart=>exact ⟨0,0,Nat.zero_le _,rfl,rfl,oM,rfl,by simp [Lib.decFrom,Hid]⟩
   case round =>
    obtain ⟨k,acc,hk,rfl,rfl,AS,rfl,HD⟩:=hrel
    by_cases xu:k < s.size
    ·by_cases hd:48≤s[k].toNat∧s[k].toNat≤57
     ·obtain ⟨AG,AH⟩:=hd
      have Ar:Hid (Lib.decFrom 0 ((bl s).take (k+1))=some (acc * 10+(s[k].toNat - 48))) :=
       Lib.decFrom_take (bl s) k 0 acc s[k] (s[k].toNat - 48) HD.out (List.getElem?_eq_getElem (l:=bl s) xu) (by unfold Lib.digitVal; rw [if_pos ⟨AG,AH⟩])
      have BA:acc * 10+(s[k].toNat - 48) < 1000000:=by
       have h1:=Lib.decFrom_lt _ _ _ Ar.out
       have h2:((bl s).take (k+1)).length≤6:=by rw [List.length_take]; omega
       have h3:=Nat.pow_le_pow_right (show 0 < 10 by omega) h2
       omega
      have j1:(48:Int)≤(s[k].toNat:Int):=oM
      have j2:(s[k].toNat:Int)≤57:=oM
      have j3:IntKind.u8.wrap ((s[k].toNat:Int) - 48)=(s[k].toNat:Int) - 48:=IntWalk.u8_in _ oM
      have j4:IntKind.i64.wrap ((s[k].toNat:Int) - 48)=(s[k].toNat:Int) - 48:=IntWalk.i64_in _ oM
      have j5:IntKind.i64.wrap (10 * (acc:Int))=10 * (acc:Int):=IntWalk.i64_in _ oM
      have j6:IntKind.i64.wrap (10 * (acc:Int)+((s[k].toNat:Int) - 48))=10 * (acc:Int)+((s[k].toNat:Int) - 48):=IntWalk.i64_in _ oM
      clear HD AS
      go_wp2_with fail
      go_roundw
      case rel=>exact ⟨k+1,acc * 10+(s[k].toNat - 48),oM,by go_num,by go_num,BA,by first | trivial | rfl,Ar⟩
      case measure=>simp [intOf] <;> omega
     ·have HZ:Hid (df (bl s)=none):=by
       cases hq:df (bl s) with
       | none=>rfl
       | some n =>
        exfalso
        obtain ⟨_,_,h3,_⟩:=il HT.out hq
        obtain ⟨d,Hu⟩:=Lib.digit_of_decFrom _ _ _ h3 k s[k] (List.getElem?_eq_getElem (l:=bl s) xu)
        have:=Lib.digitVal_eq Hu
        omega
      by_cases h48:s[k].toNat < 48
      ·have j1:(s[k].toNat:Int) < 48:=oM
       clear hd
       go_wp2_with fail
       go_ret2
       exact ⟨by rw [HZ.out]; rfl,Below.refl _ _⟩
      ·have j1 : ¬ (s[k].toNat:Int) < 48:=oM
       have j2:(57:Int) < (s[k].toNat:Int):=oM
       clear hd h48
       go_wp2_with fail
       go_ret2
       exact ⟨by rw [HZ.out]; rfl,Below.refl _ _⟩
    ·obtain rfl:k=s.size:=oM
     have HF:Hid (Lib.decFrom 0 (bl s)=some acc):=by
      have h1:=HD.out
      rw [List.take_of_length_le (by rw [ao]; exact Nat.le_refl _)] at h1; exact h1
     clear xu HD
     have Ai:Hid (∀ W:World,Calls xi 71 #[O U ((acc:Int))] W fun e w'=>e=.returned (xh ⟨(Lib.itoa ((acc:Int))).toArray⟩)∧Below W.heap.size W w'):=fun W=>mG ((acc:Int)) W oM oM
     obtain ⟨nt,Cf⟩ : ∃ x:ByteArray,x=⟨(Lib.itoa ((acc:Int))).toArray⟩:=⟨_,rfl⟩
     have AU:bl nt=Lib.itoa ((acc:Int)):=by rw [Cf,bO]
     rw [← Cf] at Ai
     clear Cf
     have j7:IntKind.i64.wrap (-(acc:Int)) = -(acc:Int):=IntWalk.i64_in _ oM
     have j8:True:=trivial
     by_cases hs:Lib.itoa ((acc:Int))=bl s
     ·have HZ:Hid (df (bl s)=some ((acc:Int))):=nI ⟨oM,oM⟩ hs
      have hb:(nt.toList == s.toList)=true:=by rw [iM,AU,hs]; simp
      clear hs AU
      go_wp2_with fail
      refine (Ai.out _).mono ?_
      rintro e w1 ⟨rfl,xp⟩
      go_wp2_with fail
      go_ret2
      exact ⟨by rw [HZ.out]; rfl,xp⟩
     ·have HZ:Hid (df (bl s)=none):=by
       cases hq:df (bl s) with
       | none=>rfl
       | some n =>
        exfalso
        obtain ⟨_,_,h3,h4⟩:=il HT.out hq
        rw [HF.out] at h3
        injection h3 with h3
        have h5:n=(acc:Int):=by rw [h4]; simp; omega
        rw [← h5] at hs
        exact hs (jc hq).2
      have hb:(nt.toList == s.toList)=false:=by rw [iM,AU]; simp [hs]
      clear hs AU
      go_wp2_with fail
      refine (Ai.out _).mono ?_
      rintro e w1 ⟨rfl,xp⟩
      go_wp2_with fail
      go_ret2
      exact ⟨by rw [HZ.out]; rfl,xp⟩
  ·have HZ:Hid (df (bl s)=none):=by
    cases hq:df (bl s) with
    | none=>rfl
    | some n =>
     exfalso
     obtain ⟨h1,h2,_⟩:=il hT hq
     rw [ao] at h1 h2
     exact xt ⟨h1,h2⟩
   have yw:bX (s.size:Int) 1 6=false:=by
    rw [← Bool.not_eq_true,jd]; omega
   clear xt
   go_wp2_with fail
   refine (aI _ _ _ _).mono ?_
   rintro e w' ⟨rfl,rfl⟩
   rw [yw]
   clear yw
   go_wp2_with fail
   go_ret2
   exact ⟨by rw [HZ.out]; rfl,Below.refl _ _⟩
theorem fI.con {w:World} {B:Nat} {x:aN} {l:Lg} {y:Oc} {v:Value} (h:fI w B x l y v):∃ X:aN,v=aK X l:=by
 rcases h with ⟨rfl,_⟩ | ⟨TA,tc,OA,oc,rfl,_,_⟩
 ·exact ⟨x,rfl⟩
 ·exact ⟨y.at TA tc OA oc,rfl⟩
def j9 (w:World) (B g:Nat) (x:aN) (l:Lg) (y:Oc):Prop:=∃ X:aN,ai w g 42 [F X.TA X.t.length X.tc,F X.OA X.o.length X.oc,O U X.gt,O U X.sd,O U X.ms,xh l.D,xh l.P,O U l.n]∧fI w B x l y (aK X l)
theorem j9.put {w:World} {B g:Nat} {x X:aN} {l:Lg} {y:Oc} {a0 a1 a2 a3 a4 a5 a6 a7:Value} (hL:ai w g 42 [a0,a1,a2,a3,a4,a5,a6,a7]) (h:fI w B x l y (aK X l)):j9 ((((((((w.setCell ⟨g,0,none⟩ (F X.TA X.t.length X.tc)).setCell ⟨g,1,none⟩ (F X.OA X.o.length X.oc)).setCell ⟨g,2,none⟩ (O U X.gt)).setCell ⟨g,3,none⟩ (O U X.sd)).setCell ⟨g,4,none⟩ (O U X.ms)).setCell ⟨g,5,none⟩ (xh l.D)).setCell ⟨g,6,none⟩ (xh l.P)).setCell ⟨g,7,none⟩ (O U l.n)) B g x l y:=by
 have gr:w.grownBy ((((((((w.setCell ⟨g,0,none⟩ (F X.TA X.t.length X.tc)).setCell ⟨g,1,none⟩ (F X.OA X.o.length X.oc)).setCell ⟨g,2,none⟩ (O U X.gt)).setCell ⟨g,3,none⟩ (O U X.sd)).setCell ⟨g,4,none⟩ (O U X.ms)).setCell ⟨g,5,none⟩ (xh l.D)).setCell ⟨g,6,none⟩ (xh l.P)).setCell ⟨g,7,none⟩ (O U l.n)) (some g):=ab (g:=g) (i:=7) (u:=O U l.n) (ab (g:=g) (i:=6) (u:=xh l.P) (ab (g:=g) (i:=5) (u:=xh l.D) (gw5 w g (F X.TA X.t.length X.tc) (F X.OA X.o.length X.oc) (O U X.gt) (O U X.sd) (O U X.ms))))
 exact ⟨X,ny (hL) (F X.TA X.t.length X.tc) (F X.OA X.o.length X.oc) (O U X.gt) (O U X.sd) (O U X.ms) (xh l.D) (xh l.P) (O U l.n),h.kept hL gr⟩
theorem fI.put {w:World} {B g:Nat} {x X:aN} {l:Lg} {y:Oc} {v:Value} {a0 a1 a2 a3 a4 a5 a6 a7:Value} (hL:ai w g 42 [a0,a1,a2,a3,a4,a5,a6,a7]) (h:fI w B x l y v):fI ((((((((w.setCell ⟨g,0,none⟩ (F X.TA X.t.length X.tc)).setCell ⟨g,1,none⟩ (F X.OA X.o.length X.oc)).setCell ⟨g,2,none⟩ (O U X.gt)).setCell ⟨g,3,none⟩ (O U X.sd)).setCell ⟨g,4,none⟩ (O U X.ms)).setCell ⟨g,5,none⟩ (xh l.D)).setCell ⟨g,6,none⟩ (xh l.P)).setCell ⟨g,7,none⟩ (O U l.n)) B x l y v:=by
 have gr:w.grownBy ((((((((w.setCell ⟨g,0,none⟩ (F X.TA X.t.length X.tc)).setCell ⟨g,1,none⟩ (F X.OA X.o.length X.oc)).setCell ⟨g,2,none⟩ (O U X.gt)).setCell ⟨g,3,none⟩ (O U X.sd)).setCell ⟨g,4,none⟩ (O U X.ms)).setCell ⟨g,5,none⟩ (xh l.D)).setCell ⟨g,6,none⟩ (xh l.P)).setCell ⟨g,7,none⟩ (O U l.n)) (some g):=ab (g:=g) (i:=7) (u:=O U l.n) (ab (g:=g) (i:=6) (u:=xh l.P) (ab (g:=g) (i:=5) (u:=xh l.D) (gw5 w g (F X.TA X.t.length X.tc) (F X.OA X.o.length X.oc) (O U X.gt) (O U X.sd) (O U X.ms))))
 exact h.kept hL gr
theorem mH (s:ByteArray) (w:World) (hs:s.size≤1000000000):Calls xi 85 #[xh s] w (jy s w):=by
 have hc:=fun W=>sU s W hs
 obtain ⟨v,hv⟩ : ∃ v,(df (bl s)).getD 0=v:=⟨_,rfl⟩
 obtain ⟨b,hb⟩ : ∃ b,(df (bl s)).isSome=b:=⟨_,rfl⟩
 unfold jy at hc ⊢
 rw [hv,hb] at hc ⊢
 clear hv hb
 go_enter Tryz.func85,Tryz.ntmps85
 go_wp2_with fail
 refine (hc _).mono ?_
 rintro e w1 ⟨rfl,hb⟩
 go_wp2
 go_ret2
 exact ⟨rfl,hb⟩
structure vN (w wx:World) (g8:Nat) (ps:List (List UInt8)) (rest:List Value) (v:Value) (m:List Int):Prop where
 bl:Below w.heap.size w wx
 ws:ai wx g8 9 (ex ps++rest)
 row:wx.ownsRow w.heap.size 3 1 v m.length (bj m)
theorem vN.then {w wx wy:World} {g8:Nat} {ps:List (List UInt8)} {rest:List Value} {v:Value} {m:List Int} (S:vN w wx g8 ps rest v m) (hb:Below wx.heap.size wx wy):vN w wy g8 ps rest v m :=
 ⟨av S.bl hb,S.ws.below hb S.ws.lt,ac S.row hb⟩
theorem vN.push {w wx wz:World} {g8:Nat} {ps:List (List UInt8)} {rest:List Value} {v v' : Value} {m:List Int} {n:Int} (S:vN w wx g8 ps rest v m)
  (ho:wz.ownsRow w.heap.size 3 1 v' (m.length+1) (bj m++[O U n])) (hg:wx.grownBy wz v.ownBlock) (xn:Below w.heap.size wx wz):vN w wz g8 ps rest v' (m++[n]) :=
 ⟨S.bl.trans xn,S.ws.kept hg (bn S.row S.ws dD),by simpa using ho⟩
theorem rH {x:aN} {line:ByteArray} (h:dW ((aH 32 (bl line)).drop 1)=none):jg x line=none:=by unfold jg; rw [h]; rfl
theorem rI {x:aN} {line:ByteArray} {ns:List Int} (h:dW ((aH 32 (bl line)).drop 1)=some ns):jg x line=bG x (wd (bl line) 0) ns:=by unfold jg; rw [h]; rfl
theorem oI {x:aN} {w0:ByteArray} {ns:List Int} (h:ns.length=0):bG x w0 ns=(dy x w0).map (x.c,·):=by
 match ns,h with
 | [],_=>rfl
theorem t6 {x:aN} {w0:ByteArray} {ns:List Int} (h:ns.length=1) (h0:0 < ns.length):bG x w0 ns=(ia x w0 ns[0]).map (x.c,·):=by
 match ns,h with
 | [a],_=>rfl
theorem wq {x:aN} {w0:ByteArray} {ns:List Int} (h:ns.length=2) (h0:0 < ns.length) (h1:1 < ns.length):bG x w0 ns=(cZ w0 ns[0] ns[1]).bind (cc x):=by
 match ns,h with
 | [a,b],_=>rfl
theorem uL {x:aN} {w0:ByteArray} {ns:List Int} (h:ns.length=3) (h0:0 < ns.length) (h1:1 < ns.length) (h2:2 < ns.length):bG x w0 ns=(dA w0 ns[0] ns[1] ns[2]).bind (cc x):=by
 match ns,h with
 | [a,b,c],_=>rfl
theorem rJ {x:aN} {w0:ByteArray} {ns:List Int} (h:4≤ns.length):bG x w0 ns=none:=by
 match ns,h with
 | a :: b :: c :: d :: l,_=>rfl
theorem lZ {x:aN} (R:Option ByteArray):fJ x (R.map (x.c,·))=x.c:=by cases R <;> rfl
theorem rK {x:aN} (R:Option ByteArray):jW (R.map (x.c,·))=R.getD da:=by cases R <;> rfl
set_option maxRecDepth 100000 in
theorem sV (x:aN) (l:Lg) (s:ByteArray) (a b:Int) (w:World) (h:aQ w w.heap.size x) (xA:x.t.length≤x.tc) :
  Calls xi 88 #[aK x l,xh s,O U a,O U b] w (bv w x l ((cZ s a b).bind (cc x))):=by
 have L1:=(ai.new w 42 #[F x.TA x.t.length x.tc,F x.OA x.o.length x.oc,O U x.gt,O U x.sd,O U x.ms,xh l.D,xh l.P,O U l.n]).alloc (.cells #[F none 0 0,F none 0 0,O U 0,O U 0,O U 0,xh ⟨#[]⟩,xh ⟨#[]⟩,O U 0] 42)
 have L2:=ai.new1 w (.cells #[F x.TA x.t.length x.tc,F x.OA x.o.length x.oc,O U x.gt,O U x.sd,O U x.ms,xh l.D,xh l.P,O U l.n] 42) 42 #[F none 0 0,F none 0 0,O U 0,O U 0,O U 0,xh ⟨#[]⟩,xh ⟨#[]⟩,O U 0]
 have b1:=bZ w (.cells #[F x.TA x.t.length x.tc,F x.OA x.o.length x.oc,O U x.gt,O U x.sd,O U x.ms,xh l.D,xh l.P,O U l.n] 42)
 have b2:=b1.alloc b1.size (.cells #[F none 0 0,F none 0 0,O U 0,O U 0,O U 0,xh ⟨#[]⟩,xh ⟨#[]⟩,O U 0] 42)
 have hW:=h.up b2 nR
 have xR:w.heap.size≤w.heap.size+1:=oM
 clear b1
 by_cases h0:s=⟨#[103,101,116]⟩
 ·subst h0
  have HR:(cZ ⟨#[103,101,116]⟩ a b).bind (cc x)=cc x ⟨1,a,0,b⟩:=by unfold cZ; rw [if_pos rfl]; rfl
  rw [HR]
  clear HR
  have hc:=fun W hW=>fX x l ⟨1,a,0,b⟩ W hW xA
  obtain ⟨R,hR⟩ : ∃ R,cc x ⟨1,a,0,b⟩=R:=⟨_,rfl⟩
  rw [hR] at hc ⊢
  clear hR
  obtain ⟨T,hT⟩ : ∃ T,jW R=T:=⟨_,rfl⟩
  unfold bv at hc
  rw [hT] at hc
  go_enter Tryz.func88,Tryz.ntmps88
  go_upto_region 3 with fail
  generalize ((w.alloc (.cells #[F x.TA x.t.length x.tc,F x.OA x.o.length x.oc,O U x.gt,O U x.sd,O U x.ms,xh l.D,xh l.P,O U l.n] 42)).alloc (.cells #[F none 0 0,F none 0 0,O U 0,O U 0,O U 0,xh ⟨#[]⟩,xh ⟨#[]⟩,O U 0] 42))=W at L1 L2 b2 hW ⊢
  obtain ⟨c0,c1,c2,c3,c4,c5,c6,c7⟩:=cells8 L1
  go_wp2_with fail
  refine (hc W hW).mono ?_
  rintro e W1 ⟨v,rfl,hv,hb⟩
  obtain ⟨X,rfl⟩:=hv.con
  have K2:=L2.below hb L2.lt
  have b3:=b2.trans (hb.mono (b2).size)
  have xV:=hv.lower (b2).size
  obtain ⟨z0,z1,z2,z3,z4,z5,z6,z7⟩:=cells8 K2
  obtain ⟨f0,f1,f2,f3,f4,f5,f6,f7⟩:=frz8 K2
  have xO:=jZ (fI.put (X:=X) K2 xV)
  have yl:=jZ (eW (g:=w.heap.size+1) (b3) xR (F X.TA X.t.length X.tc) (F X.OA X.o.length X.oc) (O U X.gt) (O U X.sd) (O U X.ms) (xh l.D) (xh l.P) (O U l.n))
  clear K2 b3 hv xV hb c0 c1 c2 c3 c4 c5 c6 c7
  go_wp2_with fail
  refine bodyPost_ret (v:=.tuple #[aK X l,xh T]) (by simp [results,Tryz.results88,go_sem, *]) rfl (bv.mk hT xO.out yl.out)
 have f0:(s.toList == [103,101,116])=false:=bW h0
 by_cases h1:s=⟨#[109,105,115,115]⟩
 ·subst h1
  have HR:(cZ ⟨#[109,105,115,115]⟩ a b).bind (cc x)=cc x ⟨5,a,b,0⟩:=by unfold cZ; rw [if_neg dD,if_pos rfl]; rfl
  rw [HR]
  clear HR
  have hc:=fun W hW=>fX x l ⟨5,a,b,0⟩ W hW xA
  obtain ⟨R,hR⟩ : ∃ R,cc x ⟨5,a,b,0⟩=R:=⟨_,rfl⟩
  rw [hR] at hc ⊢
  clear hR
  obtain ⟨T,hT⟩ : ∃ T,jW R=T:=⟨_,rfl⟩
  unfold bv at hc
  rw [hT] at hc
  go_enter Tryz.func88,Tryz.ntmps88
  go_upto_region 5 with fail
  generalize ((w.alloc (.cells #[F x.TA x.t.length x.tc,F x.OA x.o.length x.oc,O U x.gt,O U x.sd,O U x.ms,xh l.D,xh l.P,O U l.n] 42)).alloc (.cells #[F none 0 0,F none 0 0,O U 0,O U 0,O U 0,xh ⟨#[]⟩,xh ⟨#[]⟩,O U 0] 42))=W at L1 L2 b2 hW ⊢
  obtain ⟨c0,c1,c2,c3,c4,c5,c6,c7⟩:=cells8 L1
  go_wp2_with fail
  refine (hc W hW).mono ?_
  rintro e W1 ⟨v,rfl,hv,hb⟩
  obtain ⟨X,rfl⟩:=hv.con
  have K2:=L2.below hb L2.lt
  have b3:=b2.trans (hb.mono (b2).size)
  have xV:=hv.lower (b2).size
  obtain ⟨z0,z1,z2,z3,z4,z5,z6,z7⟩:=cells8 K2
  obtain ⟨f0,f1,f2,f3,f4,f5,f6,f7⟩:=frz8 K2
  have xO:=jZ (fI.put (X:=X) K2 xV)
  have yl:=jZ (eW (g:=w.heap.size+1) (b3) xR (F X.TA X.t.length X.tc) (F X.OA X.o.length X.oc) (O U X.gt) (O U X.sd) (O U X.ms) (xh l.D) (xh l.P) (O U l.n))
  clear K2 b3 hv xV hb c0 c1 c2 c3 c4 c5 c6 c7
  go_wp2_with fail
  refine bodyPost_ret (v:=.tuple #[aK X l,xh T]) (by simp [results,Tryz.results88,go_sem, *]) rfl (bv.mk hT xO.out yl.out)
 have f1:(s.toList == [109,105,115,115])=false:=bW h1
 have HR:Hid ((cZ s a b).bind (cc x)=none):=by unfold Hid cZ; rw [if_neg h0,if_neg h1]; rfl
 clear h0 h1
 go_enter Tryz.func88,Tryz.ntmps88
 go_upto_region 6 with fail
 generalize ((w.alloc (.cells #[F x.TA x.t.length x.tc,F x.OA x.o.length x.oc,O U x.gt,O U x.sd,O U x.ms,xh l.D,xh l.P,O U l.n] 42)).alloc (.cells #[F none 0 0,F none 0 0,O U 0,O U 0,O U 0,xh ⟨#[]⟩,xh ⟨#[]⟩,O U 0] 42))=W at L1 L2 b2 hW ⊢
 obtain ⟨c0,c1,c2,c3,c4,c5,c6,c7⟩:=cells8 L1
 obtain ⟨z0,z1,z2,z3,z4,z5,z6,z7⟩:=cells8 L2
 obtain ⟨f0,f1,f2,f3,f4,f5,f6,f7⟩:=frz8 L2
 have bz:=jZ (eW (g:=w.heap.size+1) (b2) xR (F x.TA x.t.length x.tc) (F x.OA x.o.length x.oc) (O U x.gt) (O U x.sd) (O U x.ms) (xh l.D) (xh l.P) (O U l.n))
 clear L1 L2 b2 hW
 go_wp2
 refine bodyPost_ret (v:=.tuple #[aK x l,xh ⟨#[63]⟩]) (by simp [results,Tryz.results88,go_sem, *]) rfl (by rw [HR.out]; exact ⟨_,rfl,.inl ⟨rfl,rfl⟩,bz.out⟩)
theorem kO {m:List Int} {rest:List Value} {k:Nat} (h:k < m.length):(bj m++rest)[k]?=some (O U m[k]):=by
 rw [List.getElem?_append_left (by simpa using h),List.getElem?_map,List.getElem?_eq_getElem h]; rfl
set_option maxRecDepth 100000 in
theorem sW (x:aN) (l:Lg) (line:ByteArray) (w:World) (h:aQ w w.heap.size x) (xA:x.t.length≤x.tc) (G:bK x) (hs:line.size≤1000) :
  Calls xi 47 #[aK x l,xh line] w (bv w x l (jg x line)):=by
 have L1:=(ai.new w 42 #[F x.TA x.t.length x.tc,F x.OA x.o.length x.oc,O U x.gt,O U x.sd,O U x.ms,xh l.D,xh l.P,O U l.n]).alloc (.cells #[F none 0 0,F none 0 0,O U 0,O U 0,O U 0,xh ⟨#[]⟩,xh ⟨#[]⟩,O U 0] 42)
 have L2:=ai.new1 w (.cells #[F x.TA x.t.length x.tc,F x.OA x.o.length x.oc,O U x.gt,O U x.sd,O U x.ms,xh l.D,xh l.P,O U l.n] 42) 42 #[F none 0 0,F none 0 0,O U 0,O U 0,O U 0,xh ⟨#[]⟩,xh ⟨#[]⟩,O U 0]
 have b1:=bZ w (.cells #[F x.TA x.t.length x.tc,F x.OA x.o.length x.oc,O U x.gt,O U x.sd,O U x.ms,xh l.D,xh l.P,O U l.n] 42)
 have b2:=b1.alloc b1.size (.cells #[F none 0 0,F none 0 0,O U 0,O U 0,O U 0,xh ⟨#[]⟩,xh ⟨#[]⟩,O U 0] 42)
 have hW:=h.up b2 nR
 have xR:w.heap.size≤w.heap.size+1:=oM
 clear b1
 have FD:=fun W=>lY line 32 W oM
 have Hv:=ky (b:=32) (n:=1000) (s:=bl line) (by rw [ao]; exact hs)
 have FE:=kx (b:=32) (n:=1000) (s:=bl line) (by rw [ao]; exact hs)
 have DZ:=jZ (fun h=>rH (x:=x) (line:=line) h)
 have CH:=jZ (fun ns h=>rI (x:=x) (line:=line) (ns:=ns) h)
 have DB:Hid (wd (bl line) 0=⟨((aH 32 (bl line)).getD 0 []).toArray⟩):=rfl
 have ER:=jZ (wJ (l:=bl line))
 obtain ⟨ps,Bg⟩ : ∃ ps,aH 32 (bl line)=ps:=⟨_,rfl⟩
 simp only [Bg] at FD Hv FE DZ CH DB ER
 have Es:=jZ FE
 obtain ⟨Cv,Ec⟩:=Hv
 obtain ⟨R,hR⟩ : ∃ R,jg x line=R:=⟨_,rfl⟩
 rw [hR] at DZ CH ⊢
 obtain ⟨w0,Hw⟩ : ∃ w0,wd (bl line) 0=w0:=⟨_,rfl⟩
 rw [Hw] at CH DB ER
 clear Bg FE hR Hw
 go_enter Tryz.func47,Tryz.ntmps47
 go_wp2_with fail
 generalize ((w.alloc (.cells #[F x.TA x.t.length x.tc,F x.OA x.o.length x.oc,O U x.gt,O U x.sd,O U x.ms,xh l.D,xh l.P,O U l.n] 42)).alloc (.cells #[F none 0 0,F none 0 0,O U 0,O U 0,O U 0,xh ⟨#[]⟩,xh ⟨#[]⟩,O U 0] 42))=W at L1 L2 b2 hW ⊢
 generalize w.heap.size+1=gr at L2 xR ⊢
 refine (FD W).mono ?_
 rintro e w3 ⟨g8,c8,rest,rfl,L8,xP,xB⟩
 have ha:=(Below.refl w3.heap.size w3).alloc nR (.cells #[] 3)
 have hO:(w3.alloc (.cells #[] 3)).ownsRow W.heap.size 3 1 (F (some ⟨w3.heap.size,0,none⟩) 0 0) 0 []:=dI (ai.new w3 3 #[]) xB.size
 have S3:=jZ (vN.mk (w:=W) (v:=F (some ⟨w3.heap.size,0,none⟩) 0 0) (m:=[]) (av xB ha) (L8.below ha L8.lt) hO)
 clear xB ha hO FD L8
 have hp1' : (1:Int)≤(ps.length:Int):=oM
 go_wp2_with fail
 generalize w3.alloc (.cells #[] 3)=W3 at S3 ⊢
 generalize w3.heap.size=g3 at S3 ⊢
 go_loopw [7,8,9,10] (fun o i _ _ wr=>∃ (k:Nat) (A:Option Addr) (c:Nat) (m:List Int),1≤k∧k≤ps.length∧i=O U k∧o=F A m.length c∧m.length≤k∧Hid (vN W wr g8 ps rest (F A m.length c) m)∧Hid (gK m (ps.drop k)=dW (ps.drop 1))) (fun _ i _ _ _=>ps.length - (intOf i).toNat)
 case atStart=>exact ⟨1,some ⟨g3,0,none⟩,0,[],Nat.le_refl _,Cv,rfl,rfl,Nat.zero_le _,S3,nb _⟩
 case round =>
  clear S3
  obtain ⟨k,A,c,m,AA,hk,rfl,rfl,Hp,HS,DC⟩:=hrel
  by_cases xu:k < ps.length
  ·have Cg:(k:Int) < (ps.length:Int):=oM
   have c0:wr.cell? ⟨g8,k,none⟩=some (xh ⟨(ps[k]'xu).toArray⟩):=by
    rw [HS.out.ws.cell]; exact iu ps _ _ xu
   have ht:=Es.out (ps[k]'xu) (List.getElem_mem _)
   obtain ⟨t,FF⟩ : ∃ t:ByteArray,t=⟨(ps[k]'xu).toArray⟩:=⟨_,rfl⟩
   have Aq:bl t=ps[k]'xu:=by rw [FF,bO]
   rw [← FF] at c0
   have Np:t.size≤1000:=by rw [← ao,Aq]; exact ht
   clear FF ht
   have EQ:Hid (df (bl t)=none→dW (ps.drop 1)=none):=fun hn=>by
    rw [← DC.out]; exact nc xu (by rw [← Aq]; exact hn)
   have Hx:Hid (∀ n,df (bl t)=some n→gK (m++[n]) (ps.drop (k+1))=dW (ps.drop 1)):=fun n hn=>by
    rw [← DC.out]; exact (nd xu (by rw [← Aq]; exact hn)).symm
   have CI:=fun W=>mH t W oM
   unfold jy at CI
   obtain ⟨q,hq⟩ : ∃ q,df (bl t)=q:=⟨_,rfl⟩
   rw [hq] at EQ Hx CI
   clear hq Aq
   cases q with
   | none =>
    have HE:=jZ (DZ.out (EQ.out rfl))
    simp only [Option.isSome_none,Option.getD_none] at CI
    go_wp2_with fail
    refine (CI _).mono ?_
    rintro e w4 ⟨rfl,xy⟩
    have b5:=av HS.out.bl xy
    have K1:=L1.below b5 L1.lt
    have K2:=L2.below b5 L2.lt
    have b6:=b2.trans (b5.mono b2.size)
    obtain ⟨c0,c1,c2,c3,c4,c5,c6,c7⟩:=cells8 K1
    obtain ⟨z0,z1,z2,z3,z4,z5,z6,z7⟩:=cells8 K2
    obtain ⟨f0,f1,f2,f3,f4,f5,f6,f7⟩:=frz8 K2
    have bz:=jZ (eW (g:=gr) (b6) xR (F x.TA x.t.length x.tc) (F x.OA x.o.length x.oc) (O U x.gt) (O U x.sd) (O U x.ms) (xh l.D) (xh l.P) (O U l.n))
    clear K1 K2 L1 L2 b6 b5 xy HS DC
    go_wp2_with fail
    refine bodyPost_ret (v:=.tuple #[aK x l,xh ⟨#[63]⟩]) (by simp [results,Tryz.results47,go_sem, *]) rfl (by rw [HE.out]; exact ⟨_,rfl,.inl ⟨rfl,rfl⟩,bz.out⟩)
   | some n =>
    have HN:=jZ (Hx.out n rfl)
    simp only [Option.isSome_some,Option.getD_some] at CI
    go_wp2_with fail
    refine (CI _).mono ?_
    rintro e w4 ⟨rfl,xy⟩
    have Ek:=jZ (HS.out.then xy)
    have Ky:=jZ Ek.out.row
    have xY:W.heap.size≤w4.heap.size:=Ek.out.bl.size
    go_wp2_with (at_builtin; refine cw (w0:=w4) rfl _ _ 100 rfl 3 _ 1 8 Tryz.underlying100 i8 rfl (by omega) (by omega) W.heap.size _ _ _ rfl Ky #[O U n] 1 _ rfl (by first | rfl | exact Array.size_push _) rfl (by simp [Value.oneCell']) (by omega) xY rfl rfl rfl rfl ?_; intro v6 w6 Dw zo xT)
    have FG:=jZ (Ek.out.push (n:=n) Dw.out zo xT)
    obtain ⟨A6,c6,Hk⟩:=az Dw.out
    subst Hk
    go_wp2
    go_roundw
    case rel=>exact ⟨k+1,A6,c6,m++[n],oM,oM,by go_num,sP,by simp; omega,by rw [Hid]; simpa using FG.out,HN.out⟩
    case measure=>simp [intOf]; omega
  ·have Cg : ¬ (k:Int) < (ps.length:Int):=oM
   have DD:Hid (dW (ps.drop 1)=some m):=by
    have h1:=DC.out; rw [List.drop_eq_nil_of_le oM,oE] at h1; exact h1.symm
   have HE:=jZ (CH.out m DD.out)
   have b5:=HS.out.bl
   have K1:=L1.below b5 L1.lt
   have K2:=L2.below b5 L2.lt
   have b6:=b2.trans (b5.mono b2.size)
   have BT:=hW.then b5
   have LW8:=HS.out.ws
   have zF:=HS.out.row
   have c80:wr.cell? ⟨g8,0,none⟩=some (xh w0):=by
    rw [LW8.cell,DB.out,eM (by omega:0 < ps.length)]; exact iu ps _ _ oM
   have CJ:Hid (ps.length=m.length+1):=by
    have:=pI DD.out; rw [List.length_drop] at this; rw [Hid]; omega
   clear HS DC L1 L2 b2 b5 hW DZ CH DB xu
   clear Es
   have Dx:(0:Int) < (ps.length:Int):=oM
   have hpsN:0 < ps.length:=oM
   by_cases e0:m.length=0
   ·have z0:((m.length:Int) == 0)=true:=by rw [e0]; rfl
    have z1:((m.length:Int) == 1)=false:=beq_false_of_ne oM
    have z2:((m.length:Int) == 2)=false:=beq_false_of_ne oM
    have z3:((m.length:Int) == 3)=false:=beq_false_of_ne oM
    have LM:w0=line:=by
     rw [ER.out (by have:=CJ.out; omega)]; exact (dU rfl).symm
    have yH:=HE.out
    rw [oI e0,LM] at yH
    have Bt:jW R=(dy x line).getD da:=by rw [yH]; exact rK _
    have HO:Hid (fJ x R=x.c):=by rw [yH]; exact lZ _
    have hc:=fun W hR=>rF x line W hR G
    obtain ⟨T,hT⟩ : ∃ T,(dy x line).getD da=T:=⟨_,rfl⟩
    rw [hT] at hc Bt
    have HT:=jZ Bt
    clear hT Bt yH LM HE ER CJ DD
    go_wp2_with fail
    refine al (Sw 5 (fun W9=>Below wr.heap.size wr W9) (fun W9=>Below w.heap.size w W9∧ai W9 gr 42 [F x.TA x.t.length x.tc,F x.OA x.o.length x.oc,O U x.gt,O U x.sd,O U x.ms,xh l.D,xh l.P,O U l.n])) (fun i w1 w2=>i ∉ [5]→Below w1.heap.size w1 w2) kZ kZ kZ (Sw.start jB.drew) ?_
    simp only [ax,Act.put,sA,gs0,gs1,Nat.zero_add,Nat.reduceAdd]
    refine aa _ (vb0C8 K1) ?_
    refine aa _ vb0 ?_
    refine aa _ (vb1C5 1 K1) ?_
    refine aa _ vb0 ?_
    refine aa (xh T) (fun vs L9 w9 xl xj hB K9 xk=>?_) ?_
    next =>
     replace xj:=sb xj xl
     have d2:=fe hB 2
     have d3:=fe hB 3
     simp only [d2,d3] at xk ⊢
     go_simp
     refine (hc w9 (BT.then xj)).mono ?_
     rintro en w8 ⟨rfl,xm⟩
     exact xk _ _ rfl (Sw.stay xl kZ dD (xj.trans (xm.mono xj.size))) (fun _=>xm)
    refine aa (undef) (fun vs L9 w9 xl xj hB K9 xk=>?_) ?_
    next =>
     replace xj:=xj.here xl
     have d0:=fe hB 0
     simp only [d0] at xk ⊢
     have Lr:=K2.below xj K2.lt
     obtain ⟨z0,z1,z2,z3,z4,z5,z6,z7⟩:=cells8 Lr
     obtain ⟨f0,f1,f2,f3,f4,f5,f6,f7⟩:=frz8 Lr
     have xO:=jZ (show ai _ gr 42 [F x.TA x.t.length x.tc,F x.OA x.o.length x.oc,O U x.gt,O U x.sd,O U x.ms,xh l.D,xh l.P,O U l.n] from ny (Lr) (F x.TA x.t.length x.tc) (F x.OA x.o.length x.oc) (O U x.gt) (O U x.sd) (O U x.ms) (xh l.D) (xh l.P) (O U l.n))
     have yl:=jZ (eW (g:=gr) ((b6).trans (xj.mono (b6).size)) xR (F x.TA x.t.length x.tc) (F x.OA x.o.length x.oc) (O U x.gt) (O U x.sd) (O U x.ms) (xh l.D) (xh l.P) (O U l.n))
     clear Lr
     go_simp
     exact xk _ _ rfl (Sw.turn ⟨yl.out,xO.out⟩) nq
    refine aa _ (va1 4) ?_
    refine au fun vs L9 w9 xv xj hB=>?_
    replace xj:=xj.done xv dD
    have dl:=ah.eq (hB 6 _ rfl rfl dD)
    simp only [dl]
    clear hB dl
    obtain ⟨hD,hN⟩:=xj
    obtain ⟨k0,k1,k2,k3,k4,k5,k6,k7⟩:=cells8 hN
    clear hN
    go_wp2
    refine bodyPost_ret (v:=.tuple #[aK x l,xh T]) (by simp [results,Tryz.results47,go_sem, *]) rfl (bv.mk HT.out (.inl ⟨rfl,HO.out⟩) hD)
   by_cases e1:m.length=1
   ·have z0:((m.length:Int) == 0)=false:=beq_false_of_ne oM
    have z1:((m.length:Int) == 1)=true:=by rw [e1]; rfl
    have z2:((m.length:Int) == 2)=false:=beq_false_of_ne oM
    have z3:((m.length:Int) == 3)=false:=beq_false_of_ne oM
    have Hy:(0:Int) < (m.length:Int):=oM
    have zj:0 < m.length:=oM
    obtain ⟨gN,cN,rN,hv,_,LN,_⟩:=cg zF oM
    injection hv with ea eb ec
    subst ea; subst ec
    clear eb
    have d0n:wr.cell? ⟨gN,0,none⟩=some (O U (m[0]'zj)):=by rw [LN.cell]; exact kO zj
    obtain ⟨a0,AD⟩ : ∃ a,m[0]'zj=a:=⟨_,rfl⟩
    rw [AD] at d0n
    have yH:=HE.out
    rw [t6 e1 zj,AD] at yH
    have Bt:jW R=(ia x w0 a0).getD da:=by rw [yH]; exact rK _
    have HO:Hid (fJ x R=x.c):=by rw [yH]; exact lZ _
    have hc:=fun W hR=>sR x l w0 a0 W hR G
    obtain ⟨T,hT⟩ : ∃ T,(ia x w0 a0).getD da=T:=⟨_,rfl⟩
    rw [hT] at hc Bt
    have HT:=jZ Bt
    clear hT Bt yH HE ER CJ DD AD
    go_wp2_with fail
    refine al (Sw 10 (fun W9=>Below wr.heap.size wr W9) (fun W9=>Below w.heap.size w W9∧ai W9 gr 42 [F x.TA x.t.length x.tc,F x.OA x.o.length x.oc,O U x.gt,O U x.sd,O U x.ms,xh l.D,xh l.P,O U l.n])) (fun i w1 w2=>i ∉ [10]→Below w1.heap.size w1 w2) kZ kZ kZ (Sw.start jB.drew) ?_
    simp only [ax,Act.put,sA,gs0,gs1,Nat.zero_add,Nat.reduceAdd]
    refine aa _ (vb0C8 K1) ?_
    refine aa _ vb0 ?_
    refine aa _ (vb1 1) ?_
    refine aa _ (vb1dt 2 LW8.lt c80) ?_
    refine aa _ vb0 ?_
    refine aa _ (vb1 4) ?_
    refine aa _ (vb1dt 5 LN.lt d0n) ?_
    refine aa (.tuple #[.agg #[F x.TA x.t.length x.tc,F x.OA x.o.length x.oc,O U x.gt,O U x.sd,O U x.ms,xh l.D,xh l.P,O U l.n],xh T]) (fun vs L9 w9 xl xj hB K9 xk=>?_) ?_
    next =>
     replace xj:=sb xj xl
     have d0:=fe hB 0
     have d3:=fe hB 3
     have d6:=fe hB 6
     simp only [d0,d3,d6] at xk ⊢
     go_simp
     refine (hc w9 (BT.then xj)).mono ?_
     rintro en w8 ⟨rfl,xm⟩
     exact xk _ _ rfl (Sw.stay xl kZ dD (xj.trans (xm.mono xj.size))) (fun _=>xm)
    refine aa _ (vb1 7) ?_
    refine aa _ (vb1 7) ?_
    refine aa (undef) (fun vs L9 w9 xl xj hB K9 xk=>?_) ?_
    next =>
     replace xj:=xj.here xl
     have d8:=fe hB 8
     simp only [d8] at xk ⊢
     have Lr:=K2.below xj K2.lt
     obtain ⟨z0,z1,z2,z3,z4,z5,z6,z7⟩:=cells8 Lr
     obtain ⟨f0,f1,f2,f3,f4,f5,f6,f7⟩:=frz8 Lr
     have xO:=jZ (show ai _ gr 42 [F x.TA x.t.length x.tc,F x.OA x.o.length x.oc,O U x.gt,O U x.sd,O U x.ms,xh l.D,xh l.P,O U l.n] from ny (Lr) (F x.TA x.t.length x.tc) (F x.OA x.o.length x.oc) (O U x.gt) (O U x.sd) (O U x.ms) (xh l.D) (xh l.P) (O U l.n))
     have yl:=jZ (eW (g:=gr) ((b6).trans (xj.mono (b6).size)) xR (F x.TA x.t.length x.tc) (F x.OA x.o.length x.oc) (O U x.gt) (O U x.sd) (O U x.ms) (xh l.D) (xh l.P) (O U l.n))
     clear Lr
     go_simp
     exact xk _ _ rfl (Sw.turn ⟨yl.out,xO.out⟩) nq
    refine aa _ (va1 9) ?_
    refine au fun vs L9 w9 xv xj hB=>?_
    replace xj:=xj.done xv dD
    have dl:=ah.eq (hB 11 _ rfl rfl dD)
    simp only [dl]
    clear hB dl
    obtain ⟨hD,hN⟩:=xj
    obtain ⟨k0,k1,k2,k3,k4,k5,k6,k7⟩:=cells8 hN
    clear hN
    go_wp2
    refine bodyPost_ret (v:=.tuple #[aK x l,xh T]) (by simp [results,Tryz.results47,go_sem, *]) rfl (bv.mk HT.out (.inl ⟨rfl,HO.out⟩) hD)
   by_cases e2:m.length=2
   ·have z0:((m.length:Int) == 0)=false:=beq_false_of_ne oM
    have z1:((m.length:Int) == 1)=false:=beq_false_of_ne oM
    have z2:((m.length:Int) == 2)=true:=by rw [e2]; rfl
    have z3:((m.length:Int) == 3)=false:=beq_false_of_ne oM
    have Hy:(0:Int) < (m.length:Int):=oM
    have zj:0 < m.length:=oM
    have Nq:(1:Int) < (m.length:Int):=oM
    have zJ:1 < m.length:=oM
    obtain ⟨gN,cN,rN,hv,_,LN,_⟩:=cg zF oM
    injection hv with ea eb ec
    subst ea; subst ec
    clear eb
    have d0n:wr.cell? ⟨gN,0,none⟩=some (O U (m[0]'zj)):=by rw [LN.cell]; exact kO zj
    have d1n:wr.cell? ⟨gN,1,none⟩=some (O U (m[1]'zJ)):=by rw [LN.cell]; exact kO zJ
    obtain ⟨a0,AD⟩ : ∃ a,m[0]'zj=a:=⟨_,rfl⟩
    rw [AD] at d0n
    obtain ⟨a1,BL⟩ : ∃ a,m[1]'zJ=a:=⟨_,rfl⟩
    rw [BL] at d1n
    have yH:=HE.out
    rw [wq e2 zj zJ,AD,BL] at yH
    have hc:=fun W hR=>sV x l w0 a0 a1 W hR xA
    rw [← yH] at hc
    obtain ⟨T,hT⟩ : ∃ T,jW R=T:=⟨_,rfl⟩
    unfold bv at hc
    rw [hT] at hc
    have HT:=jZ hT
    clear hT yH HE ER CJ DD AD BL
    go_wp2_with fail
    refine al (Sw 13 (fun W9=>Below wr.heap.size wr W9) (fun W9=>Below w.heap.size w W9∧j9 W9 w.heap.size gr x l (fJ x R))) (fun i w1 w2=>i ∉ [13]→Below w1.heap.size w1 w2) kZ kZ kZ (Sw.start jB.drew) ?_
    simp only [ax,Act.put,sA,gs0,gs1,Nat.zero_add,Nat.reduceAdd]
    refine aa _ (vb0C8 K1) ?_
    refine aa _ vb0 ?_
    refine aa _ (vb1 1) ?_
    refine aa _ (vb1dt 2 LW8.lt c80) ?_
    refine aa _ vb0 ?_
    refine aa _ (vb1 4) ?_
    refine aa _ (vb1dt 5 LN.lt d0n) ?_
    refine aa _ vb0 ?_
    refine aa _ (vb1 7) ?_
    refine aa _ (vb1dt 8 LN.lt d1n) ?_
    refine sm [13] (fun v w9=>∃ X:aN,v=.tuple #[aK X l,xh T]∧fI w9 w.heap.size x l (fJ x R) (aK X l)) (fun vs L9 w9 xl xj hB K9 xk=>?_) ?_
    next =>
     replace xj:=sb xj xl
     have d0:=fe hB 0
     have d3:=fe hB 3
     have d6:=fe hB 6
     have d9:=fe hB 9
     simp only [d0,d3,d6,d9] at xk ⊢
     simp only [Act.put,sA,gs0,gs1] at xk
     go_simp
     refine (hc w9 (BT.then xj)).mono ?_
     rintro en w8 ⟨v,rfl,hv,xm⟩
     obtain ⟨X,rfl⟩:=hv.con
     exact xk _ _ _ rfl ⟨X,rfl,hv.lower (jT b6.size xj.size)⟩ (Sw.stay xl kZ dD (xj.trans (xm.mono xj.size))) (fun _=>xm)
    refine sm [13] (fun v w9=>∃ X:aN,v=aK X l∧fI w9 w.heap.size x l (fJ x R) (aK X l)) (fun vs L9 w9 xl xj hB K9 xk=>?_) ?_
    next =>
     replace xj:=sb xj xl
     simp only [Act.put,sA,gs0,gs1] at xk
     obtain ⟨X,e0,hq⟩:=fs hB 10
     simp only [e0] at xk ⊢
     go_simp
     exact xk _ _ _ rfl ⟨X,rfl,hq⟩ (sy xl xj) bR
    refine aa (xh T) (fun vs L9 w9 xl xj hB K9 xk=>?_) ?_
    next =>
     replace xj:=sb xj xl
     obtain ⟨X,e0,hq⟩:=fs hB 10
     simp only [e0] at xk ⊢
     go_simp
     exact xk _ _ rfl (sy xl xj) bR
    refine aa (undef) (fun vs L9 w9 xl xj hB K9 xk=>?_) ?_
    next =>
     replace xj:=xj.here xl
     obtain ⟨X,e0,hq⟩:=fs hB 11
     simp only [e0] at xk ⊢
     have Lr:=K2.below xj K2.lt
     obtain ⟨z0,z1,z2,z3,z4,z5,z6,z7⟩:=cells8 Lr
     obtain ⟨f0,f1,f2,f3,f4,f5,f6,f7⟩:=frz8 Lr
     have xO:=jZ (j9.put (X:=X) Lr hq)
     have yl:=jZ (eW (g:=gr) (b6.trans (xj.mono b6.size)) xR (F X.TA X.t.length X.tc) (F X.OA X.o.length X.oc) (O U X.gt) (O U X.sd) (O U X.ms) (xh l.D) (xh l.P) (O U l.n))
     clear Lr hq
     go_simp
     exact xk _ _ rfl (Sw.turn ⟨yl.out,xO.out⟩) nq
    refine aa _ (va1 12) ?_
    refine au fun vs L9 w9 xv xj hB=>?_
    replace xj:=xj.done xv dD
    have dl:=ah.eq (hB 14 _ rfl rfl dD)
    simp only [dl]
    clear hB dl
    obtain ⟨hD,X,hN,hV⟩:=xj
    obtain ⟨k0,k1,k2,k3,k4,k5,k6,k7⟩:=cells8 hN
    clear hN
    go_wp2
    refine bodyPost_ret (v:=.tuple #[aK X l,xh T]) (by simp [results,Tryz.results47,go_sem, *]) rfl (bv.mk HT.out hV hD)
   by_cases e3:m.length=3
   ·have z0:((m.length:Int) == 0)=false:=beq_false_of_ne oM
    have z1:((m.length:Int) == 1)=false:=beq_false_of_ne oM
    have z2:((m.length:Int) == 2)=false:=beq_false_of_ne oM
    have z3:((m.length:Int) == 3)=true:=by rw [e3]; rfl
    have Hy:(0:Int) < (m.length:Int):=oM
    have zj:0 < m.length:=oM
    have Nq:(1:Int) < (m.length:Int):=oM
    have zJ:1 < m.length:=oM
    have OC:(2:Int) < (m.length:Int):=oM
    have Cs:2 < m.length:=oM
    obtain ⟨gN,cN,rN,hv,_,LN,_⟩:=cg zF oM
    injection hv with ea eb ec
    subst ea; subst ec
    clear eb
    have d0n:wr.cell? ⟨gN,0,none⟩=some (O U (m[0]'zj)):=by rw [LN.cell]; exact kO zj
    have d1n:wr.cell? ⟨gN,1,none⟩=some (O U (m[1]'zJ)):=by rw [LN.cell]; exact kO zJ
    have d2n:wr.cell? ⟨gN,2,none⟩=some (O U (m[2]'Cs)):=by rw [LN.cell]; exact kO Cs
    obtain ⟨a0,AD⟩ : ∃ a,m[0]'zj=a:=⟨_,rfl⟩
    rw [AD] at d0n
    obtain ⟨a1,BL⟩ : ∃ a,m[1]'zJ=a:=⟨_,rfl⟩
    rw [BL] at d1n
    obtain ⟨a2,As⟩ : ∃ a,m[2]'Cs=a:=⟨_,rfl⟩
    rw [As] at d2n
    have yH:=HE.out
    rw [uL e3 zj zJ Cs,AD,BL,As] at yH
    clear AD BL As HE ER CJ DD
    by_cases h0:w0=⟨#[115,104,111,119]⟩
    ·subst h0
     have Bx:R=cc x ⟨2,a0,a1,a2⟩:=by rw [yH]; unfold dA; rw [if_pos rfl]; rfl
     have hc:=fun W hR=>fX x l ⟨2,a0,a1,a2⟩ W hR xA
     rw [← Bx] at hc
     obtain ⟨T,hT⟩ : ∃ T,jW R=T:=⟨_,rfl⟩
     unfold bv at hc
     rw [hT] at hc
     have HT:=jZ hT
     clear hT yH Bx
     go_wp2_with fail
     refine al (Sw 14 (fun W9=>Below wr.heap.size wr W9) (fun W9=>Below w.heap.size w W9∧j9 W9 w.heap.size gr x l (fJ x R))) (fun i w1 w2=>i ∉ [14]→Below w1.heap.size w1 w2) kZ kZ kZ (Sw.start jB.drew) ?_
     simp only [ax,Act.put,sA,gs0,gs1,Nat.zero_add,Nat.reduceAdd]
     refine aa _ (vb0C8 K1) ?_
     refine aa _ vb0 ?_
     refine aa _ (vb1 1) ?_
     refine aa _ (vb1dt 2 LN.lt d0n) ?_
     refine aa _ vb0 ?_
     refine aa _ (vb1 4) ?_
     refine aa _ (vb1dt 5 LN.lt d1n) ?_
     refine aa _ vb0 ?_
     refine aa _ (vb1 7) ?_
     refine aa _ (vb1dt 8 LN.lt d2n) ?_
     refine aa _ (vb3 3 6 9) ?_
     refine sm [14] (fun v w9=>∃ X:aN,v=.tuple #[aK X l,xh T]∧fI w9 w.heap.size x l (fJ x R) (aK X l)) (fun vs L9 w9 xl xj hB K9 xk=>?_) ?_
     next =>
      replace xj:=sb xj xl
      have d0:=fe hB 0
      have d10:=fe hB 10
      simp only [d0,d10] at xk ⊢
      simp only [Act.put,sA,gs0,gs1] at xk
      go_simp
      refine (hc w9 (BT.then xj)).mono ?_
      rintro en w8 ⟨v,rfl,hv,xm⟩
      obtain ⟨X,rfl⟩:=hv.con
      exact xk _ _ _ rfl ⟨X,rfl,hv.lower (jT b6.size xj.size)⟩ (Sw.stay xl kZ dD (xj.trans (xm.mono xj.size))) (fun _=>xm)
     refine sm [14] (fun v w9=>∃ X:aN,v=aK X l∧fI w9 w.heap.size x l (fJ x R) (aK X l)) (fun vs L9 w9 xl xj hB K9 xk=>?_) ?_
     next =>
      replace xj:=sb xj xl
      simp only [Act.put,sA,gs0,gs1] at xk
      obtain ⟨X,e0,hq⟩:=fs hB 11
      simp only [e0] at xk ⊢
      go_simp
      exact xk _ _ _ rfl ⟨X,rfl,hq⟩ (sy xl xj) bR
     refine aa (xh T) (fun vs L9 w9 xl xj hB K9 xk=>?_) ?_
     next =>
      replace xj:=sb xj xl
      obtain ⟨X,e0,hq⟩:=fs hB 11
      simp only [e0] at xk ⊢
      go_simp
      exact xk _ _ rfl (sy xl xj) bR
     refine aa (undef) (fun vs L9 w9 xl xj hB K9 xk=>?_) ?_
     next =>
      replace xj:=xj.here xl
      obtain ⟨X,e0,hq⟩:=fs hB 12
      simp only [e0] at xk ⊢
      have Lr:=K2.below xj K2.lt
      obtain ⟨z0,z1,z2,z3,z4,z5,z6,z7⟩:=cells8 Lr
      obtain ⟨f0,f1,f2,f3,f4,f5,f6,f7⟩:=frz8 Lr
      have xO:=jZ (j9.put (X:=X) Lr hq)
      have yl:=jZ (eW (g:=gr) (b6.trans (xj.mono b6.size)) xR (F X.TA X.t.length X.tc) (F X.OA X.o.length X.oc) (O U X.gt) (O U X.sd) (O U X.ms) (xh l.D) (xh l.P) (O U l.n))
      clear Lr hq
      go_simp
      exact xk _ _ rfl (Sw.turn ⟨yl.out,xO.out⟩) nq
     refine aa _ (va1 13) ?_
     refine au fun vs L9 w9 xv xj hB=>?_
     replace xj:=xj.done xv dD
     have dl:=ah.eq (hB 15 _ rfl rfl dD)
     simp only [dl]
     clear hB dl
     obtain ⟨hD,X,hN,hV⟩:=xj
     obtain ⟨k0,k1,k2,k3,k4,k5,k6,k7⟩:=cells8 hN
     clear hN
     go_wp2
     refine bodyPost_ret (v:=.tuple #[aK X l,xh T]) (by simp [results,Tryz.results47,go_sem, *]) rfl (bv.mk HT.out hV hD)
    have f0:(w0.toList == [115,104,111,119])=false:=bW h0
    by_cases h1:w0=⟨#[98,97,99,107]⟩
    ·subst h1
     have Bx:R=cc x ⟨3,a0,a1,a2⟩:=by rw [yH]; unfold dA; rw [if_neg dD,if_pos rfl]; rfl
     have hc:=fun W hR=>fX x l ⟨3,a0,a1,a2⟩ W hR xA
     rw [← Bx] at hc
     obtain ⟨T,hT⟩ : ∃ T,jW R=T:=⟨_,rfl⟩
     unfold bv at hc
     rw [hT] at hc
     have HT:=jZ hT
     clear hT yH Bx
     go_wp2_with fail
     refine al (Sw 14 (fun W9=>Below wr.heap.size wr W9) (fun W9=>Below w.heap.size w W9∧j9 W9 w.heap.size gr x l (fJ x R))) (fun i w1 w2=>i ∉ [14]→Below w1.heap.size w1 w2) kZ kZ kZ (Sw.start jB.drew) ?_
     simp only [ax,Act.put,sA,gs0,gs1,Nat.zero_add,Nat.reduceAdd]
     refine aa _ (vb0C8 K1) ?_
     refine aa _ vb0 ?_
     refine aa _ (vb1 1) ?_
     refine aa _ (vb1dt 2 LN.lt d0n) ?_
     refine aa _ vb0 ?_
     refine aa _ (vb1 4) ?_
     refine aa _ (vb1dt 5 LN.lt d1n) ?_
     refine aa _ vb0 ?_
     refine aa _ (vb1 7) ?_
     refine aa _ (vb1dt 8 LN.lt d2n) ?_
     refine aa _ (vb3 3 6 9) ?_
     refine sm [14] (fun v w9=>∃ X:aN,v=.tuple #[aK X l,xh T]∧fI w9 w.heap.size x l (fJ x R) (aK X l)) (fun vs L9 w9 xl xj hB K9 xk=>?_) ?_
     next =>
      replace xj:=sb xj xl
      have d0:=fe hB 0
      have d10:=fe hB 10
      simp only [d0,d10] at xk ⊢
      simp only [Act.put,sA,gs0,gs1] at xk
      go_simp
      refine (hc w9 (BT.then xj)).mono ?_
      rintro en w8 ⟨v,rfl,hv,xm⟩
      obtain ⟨X,rfl⟩:=hv.con
      exact xk _ _ _ rfl ⟨X,rfl,hv.lower (jT b6.size xj.size)⟩ (Sw.stay xl kZ dD (xj.trans (xm.mono xj.size))) (fun _=>xm)
     refine sm [14] (fun v w9=>∃ X:aN,v=aK X l∧fI w9 w.heap.size x l (fJ x R) (aK X l)) (fun vs L9 w9 xl xj hB K9 xk=>?_) ?_
     next =>
      replace xj:=sb xj xl
      simp only [Act.put,sA,gs0,gs1] at xk
      obtain ⟨X,e0,hq⟩:=fs hB 11
      simp only [e0] at xk ⊢
      go_simp
      exact xk _ _ _ rfl ⟨X,rfl,hq⟩ (sy xl xj) bR
     refine aa (xh T) (fun vs L9 w9 xl xj hB K9 xk=>?_) ?_
     next =>
      replace xj:=sb xj xl
      obtain ⟨X,e0,hq⟩:=fs hB 11
      simp only [e0] at xk ⊢
      go_simp
      exact xk _ _ rfl (sy xl xj) bR
     refine aa (undef) (fun vs L9 w9 xl xj hB K9 xk=>?_) ?_
     next =>
      replace xj:=xj.here xl
      obtain ⟨X,e0,hq⟩:=fs hB 12
      simp only [e0] at xk ⊢
      have Lr:=K2.below xj K2.lt
      obtain ⟨z0,z1,z2,z3,z4,z5,z6,z7⟩:=cells8 Lr
      obtain ⟨f0,f1,f2,f3,f4,f5,f6,f7⟩:=frz8 Lr
      have xO:=jZ (j9.put (X:=X) Lr hq)
      have yl:=jZ (eW (g:=gr) (b6.trans (xj.mono b6.size)) xR (F X.TA X.t.length X.tc) (F X.OA X.o.length X.oc) (O U X.gt) (O U X.sd) (O U X.ms) (xh l.D) (xh l.P) (O U l.n))
      clear Lr hq
      go_simp
      exact xk _ _ rfl (Sw.turn ⟨yl.out,xO.out⟩) nq
     refine aa _ (va1 13) ?_
     refine au fun vs L9 w9 xv xj hB=>?_
     replace xj:=xj.done xv dD
     have dl:=ah.eq (hB 15 _ rfl rfl dD)
     simp only [dl]
     clear hB dl
     obtain ⟨hD,X,hN,hV⟩:=xj
     obtain ⟨k0,k1,k2,k3,k4,k5,k6,k7⟩:=cells8 hN
     clear hN
     go_wp2
     refine bodyPost_ret (v:=.tuple #[aK X l,xh T]) (by simp [results,Tryz.results47,go_sem, *]) rfl (bv.mk HT.out hV hD)
    have f1:(w0.toList == [98,97,99,107])=false:=bW h1
    by_cases h2:w0=⟨#[115,101,108,108]⟩
    ·subst h2
     have Bx:R=cc x ⟨4,a0,a1,a2⟩:=by rw [yH]; unfold dA; rw [if_neg dD,if_neg dD,if_pos rfl]; rfl
     have hc:=fun W hR=>fX x l ⟨4,a0,a1,a2⟩ W hR xA
     rw [← Bx] at hc
     obtain ⟨T,hT⟩ : ∃ T,jW R=T:=⟨_,rfl⟩
     unfold bv at hc
     rw [hT] at hc
     have HT:=jZ hT
     clear hT yH Bx
     go_wp2_with fail
     refine al (Sw 14 (fun W9=>Below wr.heap.size wr W9) (fun W9=>Below w.heap.size w W9∧j9 W9 w.heap.size gr x l (fJ x R))) (fun i w1 w2=>i ∉ [14]→Below w1.heap.size w1 w2) kZ kZ kZ (Sw.start jB.drew) ?_
     simp only [ax,Act.put,sA,gs0,gs1,Nat.zero_add,Nat.reduceAdd]
     refine aa _ (vb0C8 K1) ?_
     refine aa _ vb0 ?_
     refine aa _ (vb1 1) ?_
     refine aa _ (vb1dt 2 LN.lt d0n) ?_
     refine aa _ vb0 ?_
     refine aa _ (vb1 4) ?_
     refine aa _ (vb1dt 5 LN.lt d1n) ?_
     refine aa _ vb0 ?_
     refine aa _ (vb1 7) ?_
     refine aa _ (vb1dt 8 LN.lt d2n) ?_
     refine aa _ (vb3 3 6 9) ?_
     refine sm [14] (fun v w9=>∃ X:aN,v=.tuple #[aK X l,xh T]∧fI w9 w.heap.size x l (fJ x R) (aK X l)) (fun vs L9 w9 xl xj hB K9 xk=>?_) ?_
     next =>
      replace xj:=sb xj xl
      have d0:=fe hB 0
      have d10:=fe hB 10
      simp only [d0,d10] at xk ⊢
      simp only [Act.put,sA,gs0,gs1] at xk
      go_simp
      refine (hc w9 (BT.then xj)).mono ?_
      rintro en w8 ⟨v,rfl,hv,xm⟩
      obtain ⟨X,rfl⟩:=hv.con
      exact xk _ _ _ rfl ⟨X,rfl,hv.lower (jT b6.size xj.size)⟩ (Sw.stay xl kZ dD (xj.trans (xm.mono xj.size))) (fun _=>xm)
     refine sm [14] (fun v w9=>∃ X:aN,v=aK X l∧fI w9 w.heap.size x l (fJ x R) (aK X l)) (fun vs L9 w9 xl xj hB K9 xk=>?_) ?_
     next =>
      replace xj:=sb xj xl
      simp only [Act.put,sA,gs0,gs1] at xk
      obtain ⟨X,e0,hq⟩:=fs hB 11
      simp only [e0] at xk ⊢
      go_simp
      exact xk _ _ _ rfl ⟨X,rfl,hq⟩ (sy xl xj) bR
     refine aa (xh T) (fun vs L9 w9 xl xj hB K9 xk=>?_) ?_
     next =>
      replace xj:=sb xj xl
      obtain ⟨X,e0,hq⟩:=fs hB 11
      simp only [e0] at xk ⊢
      go_simp
      exact xk _ _ rfl (sy xl xj) bR
     refine aa (undef) (fun vs L9 w9 xl xj hB K9 xk=>?_) ?_
     next =>
      replace xj:=xj.here xl
      obtain ⟨X,e0,hq⟩:=fs hB 12
      simp only [e0] at xk ⊢
      have Lr:=K2.below xj K2.lt
      obtain ⟨z0,z1,z2,z3,z4,z5,z6,z7⟩:=cells8 Lr
      obtain ⟨f0,f1,f2,f3,f4,f5,f6,f7⟩:=frz8 Lr
      have xO:=jZ (j9.put (X:=X) Lr hq)
      have yl:=jZ (eW (g:=gr) (b6.trans (xj.mono b6.size)) xR (F X.TA X.t.length X.tc) (F X.OA X.o.length X.oc) (O U X.gt) (O U X.sd) (O U X.ms) (xh l.D) (xh l.P) (O U l.n))
      clear Lr hq
      go_simp
      exact xk _ _ rfl (Sw.turn ⟨yl.out,xO.out⟩) nq
     refine aa _ (va1 13) ?_
     refine au fun vs L9 w9 xv xj hB=>?_
     replace xj:=xj.done xv dD
     have dl:=ah.eq (hB 15 _ rfl rfl dD)
     simp only [dl]
     clear hB dl
     obtain ⟨hD,X,hN,hV⟩:=xj
     obtain ⟨k0,k1,k2,k3,k4,k5,k6,k7⟩:=cells8 hN
     clear hN
     go_wp2
     refine bodyPost_ret (v:=.tuple #[aK X l,xh T]) (by simp [results,Tryz.results47,go_sem, *]) rfl (bv.mk HT.out hV hD)
    have f2:(w0.toList == [115,101,108,108])=false:=bW h2
    by_cases h3:w0=⟨#[109,111,118,101]⟩
    ·subst h3
     have Bx:R=cc x ⟨6,a0,a1,a2⟩:=by rw [yH]; unfold dA; rw [if_neg dD,if_neg dD,if_neg dD,if_pos rfl]; rfl
     have hc:=fun W hR=>fX x l ⟨6,a0,a1,a2⟩ W hR xA
     rw [← Bx] at hc
     obtain ⟨T,hT⟩ : ∃ T,jW R=T:=⟨_,rfl⟩
     unfold bv at hc
     rw [hT] at hc
     have HT:=jZ hT
     clear hT yH Bx
     go_wp2_with fail
     refine al (Sw 14 (fun W9=>Below wr.heap.size wr W9) (fun W9=>Below w.heap.size w W9∧j9 W9 w.heap.size gr x l (fJ x R))) (fun i w1 w2=>i ∉ [14]→Below w1.heap.size w1 w2) kZ kZ kZ (Sw.start jB.drew) ?_
     simp only [ax,Act.put,sA,gs0,gs1,Nat.zero_add,Nat.reduceAdd]
     refine aa _ (vb0C8 K1) ?_
     refine aa _ vb0 ?_
     refine aa _ (vb1 1) ?_
     refine aa _ (vb1dt 2 LN.lt d0n) ?_
     refine aa _ vb0 ?_
     refine aa _ (vb1 4) ?_
     refine aa _ (vb1dt 5 LN.lt d1n) ?_
     refine aa _ vb0 ?_
     refine aa _ (vb1 7) ?_
     refine aa _ (vb1dt 8 LN.lt d2n) ?_
     refine aa _ (vb3 3 6 9) ?_
     refine sm [14] (fun v w9=>∃ X:aN,v=.tuple #[aK X l,xh T]∧fI w9 w.heap.size x l (fJ x R) (aK X l)) (fun vs L9 w9 xl xj hB K9 xk=>?_) ?_
     next =>
      replace xj:=sb xj xl
      have d0:=fe hB 0
      have d10:=fe hB 10
      simp only [d0,d10] at xk ⊢
      simp only [Act.put,sA,gs0,gs1] at xk
      go_simp
      refine (hc w9 (BT.then xj)).mono ?_
      rintro en w8 ⟨v,rfl,hv,xm⟩
      obtain ⟨X,rfl⟩:=hv.con
      exact xk _ _ _ rfl ⟨X,rfl,hv.lower (jT b6.size xj.size)⟩ (Sw.stay xl kZ dD (xj.trans (xm.mono xj.size))) (fun _=>xm)
     refine sm [14] (fun v w9=>∃ X:aN,v=aK X l∧fI w9 w.heap.size x l (fJ x R) (aK X l)) (fun vs L9 w9 xl xj hB K9 xk=>?_) ?_
     next =>
      replace xj:=sb xj xl
      simp only [Act.put,sA,gs0,gs1] at xk
      obtain ⟨X,e0,hq⟩:=fs hB 11
      simp only [e0] at xk ⊢
      go_simp
      exact xk _ _ _ rfl ⟨X,rfl,hq⟩ (sy xl xj) bR
     refine aa (xh T) (fun vs L9 w9 xl xj hB K9 xk=>?_) ?_
     next =>
      replace xj:=sb xj xl
      obtain ⟨X,e0,hq⟩:=fs hB 11
      simp only [e0] at xk ⊢
      go_simp
      exact xk _ _ rfl (sy xl xj) bR
     refine aa (undef) (fun vs L9 w9 xl xj hB K9 xk=>?_) ?_
     next =>
      replace xj:=xj.here xl
      obtain ⟨X,e0,hq⟩:=fs hB 12
      simp only [e0] at xk ⊢
      have Lr:=K2.below xj K2.lt
      obtain ⟨z0,z1,z2,z3,z4,z5,z6,z7⟩:=cells8 Lr
      obtain ⟨f0,f1,f2,f3,f4,f5,f6,f7⟩:=frz8 Lr
      have xO:=jZ (j9.put (X:=X) Lr hq)
      have yl:=jZ (eW (g:=gr) (b6.trans (xj.mono b6.size)) xR (F X.TA X.t.length X.tc) (F X.OA X.o.length X.oc) (O U X.gt) (O U X.sd) (O U X.ms) (xh l.D) (xh l.P) (O U l.n))
      clear Lr hq
      go_simp
      exact xk _ _ rfl (Sw.turn ⟨yl.out,xO.out⟩) nq
     refine aa _ (va1 13) ?_
     refine au fun vs L9 w9 xv xj hB=>?_
     replace xj:=xj.done xv dD
     have dl:=ah.eq (hB 15 _ rfl rfl dD)
     simp only [dl]
     clear hB dl
     obtain ⟨hD,X,hN,hV⟩:=xj
     obtain ⟨k0,k1,k2,k3,k4,k5,k6,k7⟩:=cells8 hN
     clear hN
     go_wp2
     refine bodyPost_ret (v:=.tuple #[aK X l,xh T]) (by simp [results,Tryz.results47,go_sem, *]) rfl (bv.mk HT.out hV hD)
    have f3:(w0.toList == [109,111,118,101])=false:=bW h3
    have Bx:Hid (R=none):=by rw [Hid,yH]; unfold dA; rw [if_neg h0,if_neg h1,if_neg h2,if_neg h3]; rfl
    clear h0 h1 h2 h3 yH
    obtain ⟨c0,c1,c2,c3,c4,c5,c6,c7⟩:=cells8 K1
    obtain ⟨z0,z1,z2,z3,z4,z5,z6,z7⟩:=cells8 K2
    obtain ⟨ff0,ff1,ff2,ff3,ff4,ff5,ff6,ff7⟩:=frz8 K2
    have bz:=jZ (eW (g:=gr) (b6) xR (F x.TA x.t.length x.tc) (F x.OA x.o.length x.oc) (O U x.gt) (O U x.sd) (O U x.ms) (xh l.D) (xh l.P) (O U l.n))
    clear K1 K2 b6
    go_wp2_with fail
    refine bodyPost_ret (v:=.tuple #[aK x l,xh ⟨#[63]⟩]) (by simp [results,Tryz.results47,go_sem, *]) rfl (by rw [Bx.out]; exact ⟨_,rfl,.inl ⟨rfl,rfl⟩,bz.out⟩)
   have z0:((m.length:Int) == 0)=false:=beq_false_of_ne oM
   have z1:((m.length:Int) == 1)=false:=beq_false_of_ne oM
   have z2:((m.length:Int) == 2)=false:=beq_false_of_ne oM
   have z3:((m.length:Int) == 3)=false:=beq_false_of_ne oM
   have Bx:Hid (R=none):=by rw [Hid,HE.out]; exact rJ oM
   clear HE ER CJ DD
   obtain ⟨c0,c1,c2,c3,c4,c5,c6,c7⟩:=cells8 K1
   obtain ⟨z0,z1,z2,z3,z4,z5,z6,z7⟩:=cells8 K2
   obtain ⟨ff0,ff1,ff2,ff3,ff4,ff5,ff6,ff7⟩:=frz8 K2
   have bz:=jZ (eW (g:=gr) (b6) xR (F x.TA x.t.length x.tc) (F x.OA x.o.length x.oc) (O U x.gt) (O U x.sd) (O U x.ms) (xh l.D) (xh l.P) (O U l.n))
   clear K1 K2 b6
   go_wp2_with fail
   refine bodyPost_ret (v:=.tuple #[aK x l,xh ⟨#[63]⟩]) (by simp [results,Tryz.results47,go_sem, *]) rfl (by rw [Bx.out]; exact ⟨_,rfl,.inl ⟨rfl,rfl⟩,bz.out⟩)
theorem dt {w:World} {B g:Nat} {y:Oc} {TA OA:Option Addr} {tc oc:Nat} {cs:List Value} (u0 u1 u2 u3 u4 u5 u6 u7:Value) (hL:ai w g 42 cs) (h1:w.ownsRow B 104 2 (F TA y.t.length tc) y.t.length (y.t.flatMap ar.enc)) (h2:w.ownsRow B 147 3 (F OA y.o.length oc) y.o.length (y.o.flatMap ae.enc)) :
  ((((((((w.setCell ⟨g,0,none⟩ (u0)).setCell ⟨g,1,none⟩ (u1)).setCell ⟨g,2,none⟩ (u2)).setCell ⟨g,3,none⟩ (u3)).setCell ⟨g,4,none⟩ (u4)).setCell ⟨g,5,none⟩ (u5)).setCell ⟨g,6,none⟩ (u6)).setCell ⟨g,7,none⟩ (u7)).ownsRow B 104 2 (F TA y.t.length tc) y.t.length (y.t.flatMap ar.enc)∧((((((((w.setCell ⟨g,0,none⟩ (u0)).setCell ⟨g,1,none⟩ (u1)).setCell ⟨g,2,none⟩ (u2)).setCell ⟨g,3,none⟩ (u3)).setCell ⟨g,4,none⟩ (u4)).setCell ⟨g,5,none⟩ (u5)).setCell ⟨g,6,none⟩ (u6)).setCell ⟨g,7,none⟩ (u7)).ownsRow B 147 3 (F OA y.o.length oc) y.o.length (y.o.flatMap ae.enc):=by
 have gr:w.grownBy ((((((((w.setCell ⟨g,0,none⟩ (u0)).setCell ⟨g,1,none⟩ (u1)).setCell ⟨g,2,none⟩ (u2)).setCell ⟨g,3,none⟩ (u3)).setCell ⟨g,4,none⟩ (u4)).setCell ⟨g,5,none⟩ (u5)).setCell ⟨g,6,none⟩ (u6)).setCell ⟨g,7,none⟩ (u7)) (some g):=ab (g:=g) (i:=7) (u:=u7) (ab (g:=g) (i:=6) (u:=u6) (ab (g:=g) (i:=5) (u:=u5) (gw5 w g u0 u1 u2 u3 u4)))
 exact ⟨ak h1 hL eZ gr,ak h2 hL fa gr⟩
theorem vO {x X:aN} (h:X.c=x.c) (line:ByteArray):jg X line=jg x line:=by
 cases x; cases X
 simp only [aN.c,Oc.mk.injEq] at h
 obtain ⟨rfl,rfl,rfl,rfl,rfl⟩:=h
 rfl
theorem good_c {x X:aN} (h:X.c=x.c) (G:bK x):bK X:=by
 have e:X.c.good=x.c.good:=by rw [h]
 have e1:ap x=true:=bu.2 G
 have e2:X.c.good=true:=e.trans e1
 exact bu.1 (show ap X=true from e2)
theorem uM {x:aN} (h:x.c.good=true) (w0:ByteArray) (ns:List Int):(fJ x (bG x w0 ns)).good=true:=by
 have key:∀ s:Option de,(fJ x (s.bind (cc x))).good=true:=fun s=>by
  cases s with
  | none=>exact h
  | some s =>
   show (fJ x (cc x s)).good=true
   unfold cc
   cases hN:gy x.c s with
   | none=>exact h
   | some z=>exact (fL hN).1
 unfold bG
 split
 ·rw [lZ]; exact h
 ·rw [lZ]; exact h
 ·exact key _
 ·exact key _
 ·exact h
theorem pJ {x:aN} (h:x.c.good=true) (line:ByteArray):(fJ x (jg x line)).good=true:=by
 unfold jg
 cases dW ((aH 32 (bl line)).drop 1) with
 | none=>exact h
 | some ns=>exact uM h _ _
theorem wK {x X:aN} (h:X.c=x.c) (R:Option (Oc × ByteArray)):fJ X R=fJ x R:=by cases R <;> simp [fJ,h]
def cz (w:World) (x:aN) (l:Lg) (line:ByteArray) (e:Ending) (w' : World):Prop :=
 ∃ v,e=.returned (.tuple #[v,xh (gA x l line)])∧gX w' w.heap.size (fD x l line) (fH x l line) v∧Below w.heap.size w w'
theorem cz.mk {w w' : World} {x:aN} {l l' : Lg} {line T:ByteArray} {y:Oc} {v:Value} (hT:gA x l line=T) (hO:fD x l line=y) (hL:fH x l line=l') (h1:gX w' w.heap.size y l' v) (h2:Below w.heap.size w w'):cz w x l line (.returned (.tuple #[v,xh T])) w':=by
 subst hT; subst hO; subst hL; exact ⟨v,rfl,h1,h2⟩
set_option maxRecDepth 100000 in
theorem uN (x:aN) (l:Lg) (line:ByteArray) (w:World) (h:aQ w w.heap.size x) (tl:x.t.length≤1048576) (ol:x.o.length≤1048576) (hs:l.D.size+l.P.size≤2000000) (Aj:line.size≤1048576) (xq:eu x l=false) :
  Calls xi 14 #[aK x l,xh line] w (cz w x l line):=by
 have L1:=(ai.new w 42 #[F x.TA x.t.length x.tc,F x.OA x.o.length x.oc,O U x.gt,O U x.sd,O U x.ms,xh l.D,xh l.P,O U l.n]).alloc (.cells #[F none 0 0,F none 0 0,O U 0,O U 0,O U 0,xh ⟨#[]⟩,xh ⟨#[]⟩,O U 0] 42)
 have L2:=ai.new1 w (.cells #[F x.TA x.t.length x.tc,F x.OA x.o.length x.oc,O U x.gt,O U x.sd,O U x.ms,xh l.D,xh l.P,O U l.n] 42) 42 #[F none 0 0,F none 0 0,O U 0,O U 0,O U 0,xh ⟨#[]⟩,xh ⟨#[]⟩,O U 0]
 have b1:=bZ w (.cells #[F x.TA x.t.length x.tc,F x.OA x.o.length x.oc,O U x.gt,O U x.sd,O U x.ms,xh l.D,xh l.P,O U l.n] 42)
 have b2:=b1.alloc b1.size (.cells #[F none 0 0,F none 0 0,O U 0,O U 0,O U 0,xh ⟨#[]⟩,xh ⟨#[]⟩,O U 0] 42)
 have hW:=h.up b2 nR
 have xR:w.heap.size≤w.heap.size+1:=oM
 clear b1 h
 go_enter Tryz.func14,Tryz.ntmps14
 go_wp2_with fail
 generalize ((w.alloc (.cells #[F x.TA x.t.length x.tc,F x.OA x.o.length x.oc,O U x.gt,O U x.sd,O U x.ms,xh l.D,xh l.P,O U l.n] 42)).alloc (.cells #[F none 0 0,F none 0 0,O U 0,O U 0,O U 0,xh ⟨#[]⟩,xh ⟨#[]⟩,O U 0] 42))=W at L1 L2 b2 hW ⊢
 refine (iL x l W hW tl ol).mono ?_
 rintro e W1 ⟨v,rfl,⟨TA,tc,OA,oc,rfl,Ak,Al⟩,hb⟩
 go_upto_region 2 with fail
 have xo:=(Below.refl W1.heap.size W1).alloc nR (.cells #[F TA x.c.t.length tc,F OA x.c.o.length oc,O U x.c.gt,O U x.c.sd,O U x.c.ms,xh l.D,xh l.P,O U l.n] 42)
 have xn:=av hb xo
 have J1:=L1.below xn L1.lt
 have J2:=L2.below xn L2.lt
 have J6:=ai.new W1 42 #[F TA x.c.t.length tc,F OA x.c.o.length oc,O U x.c.gt,O U x.c.sd,O U x.c.ms,xh l.D,xh l.P,O U l.n]
 have b4:=av b2 xn
 have yy:=ag (ac Ak xo) b2.size
 have yz:=ag (ac Al xo) b2.size
 have Am:=hW.then xn
 have hg26:w.heap.size+1 < W1.heap.size:=jL L2.lt hb.size
 clear xo xn hb Ak Al L1 L2 b2 hW
 generalize W1.alloc (.cells #[F TA x.c.t.length tc,F OA x.c.o.length oc,O U x.c.gt,O U x.c.sd,O U x.c.ms,xh l.D,xh l.P,O U l.n] 42)=W2 at J1 J2 J6 b4 yy yz Am ⊢
 generalize W1.heap.size=g6 at J6 hg26 ⊢
 have zo:w.heap.size≤g6:=oM
 obtain ⟨c0,c1,c2,c3,c4,c5,c6,c7⟩:=cells8 J1
 go_wp2_with fail
 refine (fU x l W2 Am hs).mono ?_
 rintro e W3 ⟨rfl,xB⟩
 have K1:=J1.below xB J1.lt
 have K2:=J2.below xB J2.lt
 have K6:=J6.below xB J6.lt
 have b5:=b4.trans (xB.mono b4.size)
 have ye:=ac yy xB
 have xN:=ac yz xB
 have yh:=Am.then xB
 clear xB J1 J2 J6 b4 yy yz Am c0 c1 c2 c3 c4 c5 c6 c7
 rw [xq]
 obtain ⟨p0,p1,p2,p3,p4,p5,p6,p7⟩:=cells8 K6
 obtain ⟨z0,z1,z2,z3,z4,z5,z6,z7⟩:=cells8 K2
 obtain ⟨f0,f1,f2,f3,f4,f5,f6,f7⟩:=frz8 K2
 obtain ⟨xQ,xL⟩:=dt (F TA x.c.t.length tc) (F OA x.c.o.length oc) (O U x.c.gt) (O U x.c.sd) (O U x.c.ms) (xh l.D) (xh l.P) (O U l.n) K2 ye xN
 have bz:=jZ (eW (g:=w.heap.size+1) (b5) xR (F TA x.c.t.length tc) (F OA x.c.o.length oc) (O U x.c.gt) (O U x.c.sd) (O U x.c.ms) (xh l.D) (xh l.P) (O U l.n))
 have DE:=jZ xQ
 have CK:=jZ xL
 clear K1 K2 K6 b5 ye xN yh xQ xL
 go_wp2_with fail
 refine bodyPost_ret (v:=.tuple #[.agg #[F TA x.c.t.length tc,F OA x.c.o.length oc,O U x.c.gt,O U x.c.sd,O U x.c.ms,xh l.D,xh l.P,O U l.n],xh ⟨#[110,111]⟩]) (by simp [results,Tryz.results14,go_sem, *]) rfl (cz.mk (by unfold gA; rw [if_neg (by rw [xq]; exact Bool.false_ne_true)]) (by unfold fD; rw [if_neg (by rw [xq]; exact Bool.false_ne_true)]) (by unfold fH; rw [if_neg (by rw [xq]; exact Bool.false_ne_true)]) ⟨TA,tc,OA,oc,rfl,DE.out,CK.out⟩ bz.out)
set_option maxRecDepth 100000 in
theorem sX (x:aN) (l:Lg) (line:ByteArray) (w:World) (h:aQ w w.heap.size x) (tl:x.t.length≤1048576) (ol:x.o.length≤1048576) (hs:l.D.size+l.P.size≤2000000) (Aj:line.size≤1048576) (xq:eu x l=true) (yP:dj.ok ⟨line,⟨#[]⟩⟩=false) :
  Calls xi 14 #[aK x l,xh line] w (cz w x l line):=by
 have L1:=(ai.new w 42 #[F x.TA x.t.length x.tc,F x.OA x.o.length x.oc,O U x.gt,O U x.sd,O U x.ms,xh l.D,xh l.P,O U l.n]).alloc (.cells #[F none 0 0,F none 0 0,O U 0,O U 0,O U 0,xh ⟨#[]⟩,xh ⟨#[]⟩,O U 0] 42)
 have L2:=ai.new1 w (.cells #[F x.TA x.t.length x.tc,F x.OA x.o.length x.oc,O U x.gt,O U x.sd,O U x.ms,xh l.D,xh l.P,O U l.n] 42) 42 #[F none 0 0,F none 0 0,O U 0,O U 0,O U 0,xh ⟨#[]⟩,xh ⟨#[]⟩,O U 0]
 have b1:=bZ w (.cells #[F x.TA x.t.length x.tc,F x.OA x.o.length x.oc,O U x.gt,O U x.sd,O U x.ms,xh l.D,xh l.P,O U l.n] 42)
 have b2:=b1.alloc b1.size (.cells #[F none 0 0,F none 0 0,O U 0,O U 0,O U 0,xh ⟨#[]⟩,xh ⟨#[]⟩,O U 0] 42)
 have hW:=h.up b2 nR
 have xR:w.heap.size≤w.heap.size+1:=oM
 clear b1 h
 go_enter Tryz.func14,Tryz.ntmps14
 go_wp2_with fail
 generalize ((w.alloc (.cells #[F x.TA x.t.length x.tc,F x.OA x.o.length x.oc,O U x.gt,O U x.sd,O U x.ms,xh l.D,xh l.P,O U l.n] 42)).alloc (.cells #[F none 0 0,F none 0 0,O U 0,O U 0,O U 0,xh ⟨#[]⟩,xh ⟨#[]⟩,O U 0] 42))=W at L1 L2 b2 hW ⊢
 refine (iL x l W hW tl ol).mono ?_
 rintro e W1 ⟨v,rfl,⟨TA,tc,OA,oc,rfl,Ak,Al⟩,hb⟩
 go_upto_region 2 with fail
 have xo:=(Below.refl W1.heap.size W1).alloc nR (.cells #[F TA x.c.t.length tc,F OA x.c.o.length oc,O U x.c.gt,O U x.c.sd,O U x.c.ms,xh l.D,xh l.P,O U l.n] 42)
 have xn:=av hb xo
 have J1:=L1.below xn L1.lt
 have J2:=L2.below xn L2.lt
 have J6:=ai.new W1 42 #[F TA x.c.t.length tc,F OA x.c.o.length oc,O U x.c.gt,O U x.c.sd,O U x.c.ms,xh l.D,xh l.P,O U l.n]
 have b4:=av b2 xn
 have yy:=ag (ac Ak xo) b2.size
 have yz:=ag (ac Al xo) b2.size
 have Am:=hW.then xn
 have hg26:w.heap.size+1 < W1.heap.size:=jL L2.lt hb.size
 clear xo xn hb Ak Al L1 L2 b2 hW
 generalize W1.alloc (.cells #[F TA x.c.t.length tc,F OA x.c.o.length oc,O U x.c.gt,O U x.c.sd,O U x.c.ms,xh l.D,xh l.P,O U l.n] 42)=W2 at J1 J2 J6 b4 yy yz Am ⊢
 generalize W1.heap.size=g6 at J6 hg26 ⊢
 have zo:w.heap.size≤g6:=oM
 obtain ⟨c0,c1,c2,c3,c4,c5,c6,c7⟩:=cells8 J1
 go_wp2_with fail
 refine (fU x l W2 Am hs).mono ?_
 rintro e W3 ⟨rfl,xB⟩
 have K1:=J1.below xB J1.lt
 have K2:=J2.below xB J2.lt
 have K6:=J6.below xB J6.lt
 have b5:=b4.trans (xB.mono b4.size)
 have ye:=ac yy xB
 have xN:=ac yz xB
 have yh:=Am.then xB
 clear xB J1 J2 J6 b4 yy yz Am c0 c1 c2 c3 c4 c5 c6 c7
 rw [xq]
 go_wp2_with fail
 refine (gV ⟨line,⟨#[]⟩⟩ W3 (jT Aj dD) (show (0:Nat)≤1000000000 by omega)).mono ?_
 rintro e W4 ⟨rfl,xy⟩
 have N1:=K1.below xy K1.lt
 have N2:=K2.below xy K2.lt
 have N6:=K6.below xy K6.lt
 have b6:=b5.trans (xy.mono b5.size)
 have yK:=ac ye xy
 have yL:=ac xN xy
 have yx:=yh.then xy
 clear xy K1 K2 K6 b5 ye xN yh
 rw [yP]
 obtain ⟨p0,p1,p2,p3,p4,p5,p6,p7⟩:=cells8 N6
 obtain ⟨z0,z1,z2,z3,z4,z5,z6,z7⟩:=cells8 N2
 obtain ⟨f0,f1,f2,f3,f4,f5,f6,f7⟩:=frz8 N2
 obtain ⟨xQ,xL⟩:=dt (F TA x.c.t.length tc) (F OA x.c.o.length oc) (O U x.c.gt) (O U x.c.sd) (O U x.c.ms) (xh l.D) (xh l.P) (O U l.n) N2 yK yL
 have bz:=jZ (eW (g:=w.heap.size+1) (b6) xR (F TA x.c.t.length tc) (F OA x.c.o.length oc) (O U x.c.gt) (O U x.c.sd) (O U x.c.ms) (xh l.D) (xh l.P) (O U l.n))
 have DE:=jZ xQ
 have CK:=jZ xL
 clear N1 N2 N6 b6 yK yL yx xQ xL
 go_wp2_with fail
 refine bodyPost_ret (v:=.tuple #[.agg #[F TA x.c.t.length tc,F OA x.c.o.length oc,O U x.c.gt,O U x.c.sd,O U x.c.ms,xh l.D,xh l.P,O U l.n],xh ⟨#[98,97,100]⟩]) (by simp [results,Tryz.results14,go_sem, *]) rfl (cz.mk (by unfold gA; rw [if_pos xq,if_neg (by rw [yP]; exact Bool.false_ne_true)]) (by unfold fD; rw [if_pos xq,if_neg (by rw [yP]; exact Bool.false_ne_true)]) (by unfold fH; rw [if_pos xq,if_neg (by rw [yP]; exact Bool.false_ne_true)]) ⟨TA,tc,OA,oc,rfl,DE.out,CK.out⟩ bz.out)
set_option maxRecDepth 100000 in
theorem rL (x:aN) (l:Lg) (line:ByteArray) (w:World) (h:aQ w w.heap.size x) (tl:x.t.length≤1048576) (ol:x.o.length≤1048576) (hs:l.D.size+l.P.size≤2000000) (Aj:line.size≤1048576) (xq:eu x l=true) (yP:dj.ok ⟨line,⟨#[]⟩⟩=true) (hn:l.n=60) :
  Calls xi 14 #[aK x l,xh line] w (cz w x l line):=by
 have xw:(l.n == 60)=true:=by rw [hn]; rfl
 have HN:=jZ hn
 clear hn
 have L1:=(ai.new w 42 #[F x.TA x.t.length x.tc,F x.OA x.o.length x.oc,O U x.gt,O U x.sd,O U x.ms,xh l.D,xh l.P,O U l.n]).alloc (.cells #[F none 0 0,F none 0 0,O U 0,O U 0,O U 0,xh ⟨#[]⟩,xh ⟨#[]⟩,O U 0] 42)
 have L2:=ai.new1 w (.cells #[F x.TA x.t.length x.tc,F x.OA x.o.length x.oc,O U x.gt,O U x.sd,O U x.ms,xh l.D,xh l.P,O U l.n] 42) 42 #[F none 0 0,F none 0 0,O U 0,O U 0,O U 0,xh ⟨#[]⟩,xh ⟨#[]⟩,O U 0]
 have b1:=bZ w (.cells #[F x.TA x.t.length x.tc,F x.OA x.o.length x.oc,O U x.gt,O U x.sd,O U x.ms,xh l.D,xh l.P,O U l.n] 42)
 have b2:=b1.alloc b1.size (.cells #[F none 0 0,F none 0 0,O U 0,O U 0,O U 0,xh ⟨#[]⟩,xh ⟨#[]⟩,O U 0] 42)
 have hW:=h.up b2 nR
 have xR:w.heap.size≤w.heap.size+1:=oM
 clear b1 h
 go_enter Tryz.func14,Tryz.ntmps14
 go_wp2_with fail
 generalize ((w.alloc (.cells #[F x.TA x.t.length x.tc,F x.OA x.o.length x.oc,O U x.gt,O U x.sd,O U x.ms,xh l.D,xh l.P,O U l.n] 42)).alloc (.cells #[F none 0 0,F none 0 0,O U 0,O U 0,O U 0,xh ⟨#[]⟩,xh ⟨#[]⟩,O U 0] 42))=W at L1 L2 b2 hW ⊢
 refine (iL x l W hW tl ol).mono ?_
 rintro e W1 ⟨v,rfl,⟨TA,tc,OA,oc,rfl,Ak,Al⟩,hb⟩
 go_upto_region 2 with fail
 have xo:=(Below.refl W1.heap.size W1).alloc nR (.cells #[F TA x.c.t.length tc,F OA x.c.o.length oc,O U x.c.gt,O U x.c.sd,O U x.c.ms,xh l.D,xh l.P,O U l.n] 42)
 have xn:=av hb xo
 have J1:=L1.below xn L1.lt
 have J2:=L2.below xn L2.lt
 have J6:=ai.new W1 42 #[F TA x.c.t.length tc,F OA x.c.o.length oc,O U x.c.gt,O U x.c.sd,O U x.c.ms,xh l.D,xh l.P,O U l.n]
 have b4:=av b2 xn
 have yy:=ag (ac Ak xo) b2.size
 have yz:=ag (ac Al xo) b2.size
 have Am:=hW.then xn
 have hg26:w.heap.size+1 < W1.heap.size:=jL L2.lt hb.size
 clear xo xn hb Ak Al L1 L2 b2 hW
 generalize W1.alloc (.cells #[F TA x.c.t.length tc,F OA x.c.o.length oc,O U x.c.gt,O U x.c.sd,O U x.c.ms,xh l.D,xh l.P,O U l.n] 42)=W2 at J1 J2 J6 b4 yy yz Am ⊢
 generalize W1.heap.size=g6 at J6 hg26 ⊢
 have zo:w.heap.size≤g6:=oM
 obtain ⟨c0,c1,c2,c3,c4,c5,c6,c7⟩:=cells8 J1
 go_wp2_with fail
 refine (fU x l W2 Am hs).mono ?_
 rintro e W3 ⟨rfl,xB⟩
 have K1:=J1.below xB J1.lt
 have K2:=J2.below xB J2.lt
 have K6:=J6.below xB J6.lt
 have b5:=b4.trans (xB.mono b4.size)
 have ye:=ac yy xB
 have xN:=ac yz xB
 have yh:=Am.then xB
 clear xB J1 J2 J6 b4 yy yz Am c0 c1 c2 c3 c4 c5 c6 c7
 rw [xq]
 go_wp2_with fail
 refine (gV ⟨line,⟨#[]⟩⟩ W3 (jT Aj dD) (show (0:Nat)≤1000000000 by omega)).mono ?_
 rintro e W4 ⟨rfl,xy⟩
 have N1:=K1.below xy K1.lt
 have N2:=K2.below xy K2.lt
 have N6:=K6.below xy K6.lt
 have b6:=b5.trans (xy.mono b5.size)
 have yK:=ac ye xy
 have yL:=ac xN xy
 have yx:=yh.then xy
 clear xy K1 K2 K6 b5 ye xN yh
 rw [yP]
 obtain ⟨c0,c1,c2,c3,c4,c5,c6,c7⟩:=cells8 N1
 obtain ⟨p0,p1,p2,p3,p4,p5,p6,p7⟩:=cells8 N6
 obtain ⟨z0,z1,z2,z3,z4,z5,z6,z7⟩:=cells8 N2
 obtain ⟨f0,f1,f2,f3,f4,f5,f6,f7⟩:=frz8 N2
 obtain ⟨xQ,xL⟩:=dt (F TA x.c.t.length tc) (F OA x.c.o.length oc) (O U x.c.gt) (O U x.c.sd) (O U x.c.ms) (xh l.D) (xh l.P) (O U l.n) N2 yK yL
 have bz:=jZ (eW (g:=w.heap.size+1) (b6) xR (F TA x.c.t.length tc) (F OA x.c.o.length oc) (O U x.c.gt) (O U x.c.sd) (O U x.c.ms) (xh l.D) (xh l.P) (O U l.n))
 have DE:=jZ xQ
 have CK:=jZ xL
 clear N1 N2 N6 b6 yK yL yx xQ xL
 go_wp2_with fail
 refine bodyPost_ret (v:=.tuple #[.agg #[F TA x.c.t.length tc,F OA x.c.o.length oc,O U x.c.gt,O U x.c.sd,O U x.c.ms,xh l.D,xh l.P,O U l.n],xh ⟨#[102,117,108,108]⟩]) (by simp [results,Tryz.results14,go_sem, *]) rfl (cz.mk (by unfold gA; rw [if_pos xq,if_pos yP,if_pos HN.out]) (by unfold fD; rw [if_pos xq,if_pos yP,if_pos HN.out]) (by unfold fH; rw [if_pos xq,if_pos yP,if_pos HN.out]) ⟨TA,tc,OA,oc,rfl,DE.out,CK.out⟩ bz.out)
set_option maxRecDepth 100000 in
theorem sY (x:aN) (l:Lg) (line:ByteArray) (w:World) (h:aQ w w.heap.size x) (tl:x.t.length≤1048576) (ol:x.o.length≤1048576) (hs:l.D.size+l.P.size≤2000000) (Aj:line.size≤1048576) (xq:eu x l=true) (yP:dj.ok ⟨line,⟨#[]⟩⟩=true) (hn : ¬ l.n=60) :
  Calls xi 14 #[aK x l,xh line] w (cz w x l line):=by
 have xw:(l.n == 60)=false:=beq_false_of_ne hn
 have G:=oD xq
 have hl160:line.size≤1000:=by
  have h1:=(dd.1 yP).2.1
  have h2:line.size≤160:=h1
  omega
 have FH:gA x l line=jv x line:=by unfold gA; rw [if_pos xq,if_pos yP,if_neg hn]
 have Gl:fD x l line=rE x line:=by unfold fD; rw [if_pos xq,if_pos yP,if_neg hn]
 have Et:fH x l line=cm l ⟨line,jv x line⟩:=by unfold fH; rw [if_pos xq,if_pos yP,if_neg hn]
 obtain ⟨R,hR⟩ : ∃ R,jg x line=R:=⟨_,rfl⟩
 have BC:jv x line=if 200 < (jW R).size then ⟨#[108,111,110,103]⟩ else jW R:=by
  unfold jv; rw [hR]; cases R with
  | none=>exact (if_neg dD).symm
  | some r=>rfl
 have Bc:rE x line=fJ x R:=by unfold rE; rw [hR]; cases R <;> rfl
 obtain ⟨rep,Ch⟩ : ∃ rep,jv x line=rep:=⟨_,rfl⟩
 have Dy:rep.size≤200:=by
  rw [← Ch,BC]; split
  ·show (4:Nat)≤200; omega
  ·omega
 obtain ⟨l2,yZ⟩ : ∃ l2,cm l ⟨line,rep⟩=l2:=⟨_,rfl⟩
 have cA:=fun W=>gu l ⟨line,rep⟩ W hs (jT hl160 dD) (jT Dy dD)
 rw [Ch] at FH Et BC
 rw [yZ] at cA Et
 have ET:=jZ FH
 have EO:=jZ (Gl.trans Bc)
 have EL:=jZ Et
 have HC:=jZ hR
 clear hn FH Gl Et Bc Ch yZ hR
 have L1:=(ai.new w 42 #[F x.TA x.t.length x.tc,F x.OA x.o.length x.oc,O U x.gt,O U x.sd,O U x.ms,xh l.D,xh l.P,O U l.n]).alloc (.cells #[F none 0 0,F none 0 0,O U 0,O U 0,O U 0,xh ⟨#[]⟩,xh ⟨#[]⟩,O U 0] 42)
 have L2:=ai.new1 w (.cells #[F x.TA x.t.length x.tc,F x.OA x.o.length x.oc,O U x.gt,O U x.sd,O U x.ms,xh l.D,xh l.P,O U l.n] 42) 42 #[F none 0 0,F none 0 0,O U 0,O U 0,O U 0,xh ⟨#[]⟩,xh ⟨#[]⟩,O U 0]
 have b1:=bZ w (.cells #[F x.TA x.t.length x.tc,F x.OA x.o.length x.oc,O U x.gt,O U x.sd,O U x.ms,xh l.D,xh l.P,O U l.n] 42)
 have b2:=b1.alloc b1.size (.cells #[F none 0 0,F none 0 0,O U 0,O U 0,O U 0,xh ⟨#[]⟩,xh ⟨#[]⟩,O U 0] 42)
 have hW:=h.up b2 nR
 have xR:w.heap.size≤w.heap.size+1:=oM
 clear b1 h
 go_enter Tryz.func14,Tryz.ntmps14
 go_wp2_with fail
 generalize ((w.alloc (.cells #[F x.TA x.t.length x.tc,F x.OA x.o.length x.oc,O U x.gt,O U x.sd,O U x.ms,xh l.D,xh l.P,O U l.n] 42)).alloc (.cells #[F none 0 0,F none 0 0,O U 0,O U 0,O U 0,xh ⟨#[]⟩,xh ⟨#[]⟩,O U 0] 42))=W at L1 L2 b2 hW ⊢
 refine (iL x l W hW tl ol).mono ?_
 rintro e W1 ⟨v,rfl,⟨TA,tc,OA,oc,rfl,Ak,Al⟩,hb⟩
 go_upto_region 2 with fail
 have xo:=(Below.refl W1.heap.size W1).alloc nR (.cells #[F TA x.c.t.length tc,F OA x.c.o.length oc,O U x.c.gt,O U x.c.sd,O U x.c.ms,xh l.D,xh l.P,O U l.n] 42)
 have xn:=av hb xo
 have J1:=L1.below xn L1.lt
 have J2:=L2.below xn L2.lt
 have J6:=ai.new W1 42 #[F TA x.c.t.length tc,F OA x.c.o.length oc,O U x.c.gt,O U x.c.sd,O U x.c.ms,xh l.D,xh l.P,O U l.n]
 have b4:=av b2 xn
 have yy:=ag (ac Ak xo) b2.size
 have yz:=ag (ac Al xo) b2.size
 have Am:=hW.then xn
 have hg26:w.heap.size+1 < W1.heap.size:=jL L2.lt hb.size
 clear xo xn hb Ak Al L1 L2 b2 hW
 generalize W1.alloc (.cells #[F TA x.c.t.length tc,F OA x.c.o.length oc,O U x.c.gt,O U x.c.sd,O U x.c.ms,xh l.D,xh l.P,O U l.n] 42)=W2 at J1 J2 J6 b4 yy yz Am ⊢
 generalize W1.heap.size=g6 at J6 hg26 ⊢
 have zo:w.heap.size≤g6:=oM
 obtain ⟨c0,c1,c2,c3,c4,c5,c6,c7⟩:=cells8 J1
 go_wp2_with fail
 refine (fU x l W2 Am hs).mono ?_
 rintro e W3 ⟨rfl,xB⟩
 have K1:=J1.below xB J1.lt
 have K2:=J2.below xB J2.lt
 have K6:=J6.below xB J6.lt
 have b5:=b4.trans (xB.mono b4.size)
 have ye:=ac yy xB
 have xN:=ac yz xB
 have yh:=Am.then xB
 clear xB J1 J2 J6 b4 yy yz Am c0 c1 c2 c3 c4 c5 c6 c7
 rw [xq]
 go_wp2_with fail
 refine (gV ⟨line,⟨#[]⟩⟩ W3 (jT Aj dD) (show (0:Nat)≤1000000000 by omega)).mono ?_
 rintro e W4 ⟨rfl,xy⟩
 have N1:=K1.below xy K1.lt
 have N2:=K2.below xy K2.lt
 have N6:=K6.below xy K6.lt
 have b6:=b5.trans (xy.mono b5.size)
 have yK:=ac ye xy
 have yL:=ac xN xy
 have yx:=yh.then xy
 clear xy K1 K2 K6 b5 ye xN yh
 rw [yP]
 obtain ⟨c0,c1,c2,c3,c4,c5,c6,c7⟩:=cells8 N1
 have Eu:(x.c.at TA tc OA oc).c=x.c:=rfl
 have Kz:aQ W4 W4.heap.size (x.c.at TA tc OA oc):=⟨an yK,an yL⟩
 have hcapX:(x.c.at TA tc OA oc).t.length≤(x.c.at TA tc OA oc).tc:=iW yK
 have xZ:=sW (x.c.at TA tc OA oc) l line W4 Kz hcapX (good_c Eu G) hl160
 rw [vO Eu,HC.out] at xZ
 obtain ⟨p0,p1,p2,p3,p4,p5,p6,p7⟩:=cells8 N6
 go_wp2_with fail
 refine xZ.mono ?_
 rintro e W5 ⟨v,rfl,hv,hb5⟩
 obtain ⟨X,rfl,Hz,BK⟩:=hv.as (Kz.then hb5)
 have xo:=(Below.refl W5.heap.size W5).alloc nR (.cells #[F X.TA X.t.length X.tc,F X.OA X.o.length X.oc,O U X.gt,O U X.sd,O U X.ms,xh l.D,xh l.P,O U l.n] 42)
 have xT:=av hb5 xo
 have J1:=N1.below xT N1.lt
 have J2:=N2.below xT N2.lt
 have J6:=N6.below xT N6.lt
 have J7:=ai.new W5 42 #[F X.TA X.t.length X.tc,F X.OA X.o.length X.oc,O U X.gt,O U X.sd,O U X.ms,xh l.D,xh l.P,O U l.n]
 have b7:=b6.trans (xT.mono b6.size)
 have KA:=BK.then xo
 have hg67:g6 < W5.heap.size:=jL N6.lt hb5.size
 clear p0 p1 p2 p3 p4 p5 p6 p7 c0 c1 c2 c3 c4 c5 c6 c7
 go_upto_region 9 with fail
 clear xo xT hb5 hv BK N1 N2 N6 b6 yK yL Kz xZ hcapX yx
 generalize W5.alloc (.cells #[F X.TA X.t.length X.tc,F X.OA X.o.length X.oc,O U X.gt,O U X.sd,O U X.ms,xh l.D,xh l.P,O U l.n] 42)=W6 at J1 J2 J6 J7 b7 KA ⊢
 generalize W5.heap.size=g7 at J7 hg67 ⊢
 rw [wK Eu] at Hz
 have LO:(fJ x R).good=true:=by rw [← HC.out]; exact pJ (by have e1:ap x=true:=bu.2 G; exact e1) line
 have xt:=kE LO
 rw [← Hz] at xt
 have xH:=iL X l W6 KA (by have:=xt.1; show X.c.t.length≤_; omega) (by have:=xt.2; show X.c.o.length≤_; omega)
 rw [Hz] at xH
 have Nr:=jZ Hz
 clear xt Hz Eu
 obtain ⟨y,hy⟩ : ∃ y,fJ x R=y:=⟨_,rfl⟩
 rw [hy] at xH EO
 clear hy LO Nr
 obtain ⟨c0,c1,c2,c3,c4,c5,c6,c7⟩:=cells8 J7
 go_wp2_with fail
 refine xH.mono ?_
 rintro e W7 ⟨v,rfl,⟨TB,tb,OB,ob,rfl,CA,BJ⟩,yX⟩
 have K1:=J1.below yX J1.lt
 have K2:=J2.below yX J2.lt
 have K6:=J6.below yX J6.lt
 have b8:=b7.trans (yX.mono b7.size)
 have zA:=ag CA b7.size
 have xI:=ag BJ b7.size
 obtain ⟨xJ,yk⟩:=dt (F TB y.t.length tb) (F OB y.o.length ob) (O U y.gt) (O U y.sd) (O U y.ms) (xh l.D) (xh l.P) (O U l.n) K6 zA xI
 have M1:ai ((((((((W7.setCell ⟨g6,0,none⟩ (F TB y.t.length tb)).setCell ⟨g6,1,none⟩ (F OB y.o.length ob)).setCell ⟨g6,2,none⟩ (O U y.gt)).setCell ⟨g6,3,none⟩ (O U y.sd)).setCell ⟨g6,4,none⟩ (O U y.ms)).setCell ⟨g6,5,none⟩ (xh l.D)).setCell ⟨g6,6,none⟩ (xh l.P)).setCell ⟨g6,7,none⟩ (O U l.n)) w.heap.size 42 [F x.TA x.t.length x.tc,F x.OA x.o.length x.oc,O U x.gt,O U x.sd,O U x.ms,xh l.D,xh l.P,O U l.n]:=((((((((K1).other (p:=⟨g6,0,none⟩) (by simp only; omega) (F TB y.t.length tb)).other (p:=⟨g6,1,none⟩) (by simp only; omega) (F OB y.o.length ob)).other (p:=⟨g6,2,none⟩) (by simp only; omega) (O U y.gt)).other (p:=⟨g6,3,none⟩) (by simp only; omega) (O U y.sd)).other (p:=⟨g6,4,none⟩) (by simp only; omega) (O U y.ms)).other (p:=⟨g6,5,none⟩) (by simp only; omega) (xh l.D)).other (p:=⟨g6,6,none⟩) (by simp only; omega) (xh l.P)).other (p:=⟨g6,7,none⟩) (by simp only; omega) (O U l.n)
 have M2:ai ((((((((W7.setCell ⟨g6,0,none⟩ (F TB y.t.length tb)).setCell ⟨g6,1,none⟩ (F OB y.o.length ob)).setCell ⟨g6,2,none⟩ (O U y.gt)).setCell ⟨g6,3,none⟩ (O U y.sd)).setCell ⟨g6,4,none⟩ (O U y.ms)).setCell ⟨g6,5,none⟩ (xh l.D)).setCell ⟨g6,6,none⟩ (xh l.P)).setCell ⟨g6,7,none⟩ (O U l.n)) (w.heap.size+1) 42 [F none 0 0,F none 0 0,O U 0,O U 0,O U 0,xh ⟨#[]⟩,xh ⟨#[]⟩,O U 0]:=((((((((K2).other (p:=⟨g6,0,none⟩) (by simp only; omega) (F TB y.t.length tb)).other (p:=⟨g6,1,none⟩) (by simp only; omega) (F OB y.o.length ob)).other (p:=⟨g6,2,none⟩) (by simp only; omega) (O U y.gt)).other (p:=⟨g6,3,none⟩) (by simp only; omega) (O U y.sd)).other (p:=⟨g6,4,none⟩) (by simp only; omega) (O U y.ms)).other (p:=⟨g6,5,none⟩) (by simp only; omega) (xh l.D)).other (p:=⟨g6,6,none⟩) (by simp only; omega) (xh l.P)).other (p:=⟨g6,7,none⟩) (by simp only; omega) (O U l.n)
 have M6:ai ((((((((W7.setCell ⟨g6,0,none⟩ (F TB y.t.length tb)).setCell ⟨g6,1,none⟩ (F OB y.o.length ob)).setCell ⟨g6,2,none⟩ (O U y.gt)).setCell ⟨g6,3,none⟩ (O U y.sd)).setCell ⟨g6,4,none⟩ (O U y.ms)).setCell ⟨g6,5,none⟩ (xh l.D)).setCell ⟨g6,6,none⟩ (xh l.P)).setCell ⟨g6,7,none⟩ (O U l.n)) g6 42 [F TB y.t.length tb,F OB y.o.length ob,O U y.gt,O U y.sd,O U y.ms,xh l.D,xh l.P,O U l.n]:=ny (K6) (F TB y.t.length tb) (F OB y.o.length ob) (O U y.gt) (O U y.sd) (O U y.ms) (xh l.D) (xh l.P) (O U l.n)
 have b9:=eW (g:=g6) (b8) zo (F TB y.t.length tb) (F OB y.o.length ob) (O U y.gt) (O U y.sd) (O U y.ms) (xh l.D) (xh l.P) (O U l.n)
 obtain ⟨z0,z1,z2,z3,z4,z5,z6,z7⟩:=cells8 K6
 obtain ⟨f0,f1,f2,f3,f4,f5,f6,f7⟩:=frz8 K6
 clear J1 J2 J6 J7 b7 KA yX K1 K2 CA BJ zA xI b8 c0 c1 c2 c3 c4 c5 c6 c7 xH
 go_upto_region 10 with fail
 clear K6 z0 z1 z2 z3 z4 z5 z6 z7 f0 f1 f2 f3 f4 f5 f6 f7
 generalize ((((((((W7.setCell ⟨g6,0,none⟩ (F TB y.t.length tb)).setCell ⟨g6,1,none⟩ (F OB y.o.length ob)).setCell ⟨g6,2,none⟩ (O U y.gt)).setCell ⟨g6,3,none⟩ (O U y.sd)).setCell ⟨g6,4,none⟩ (O U y.ms)).setCell ⟨g6,5,none⟩ (xh l.D)).setCell ⟨g6,6,none⟩ (xh l.P)).setCell ⟨g6,7,none⟩ (O U l.n))=W8 at M1 M2 M6 b9 xJ yk ⊢
 obtain ⟨cod,An⟩ : ∃ cod,dY l ⟨line,rep⟩=cod:=⟨_,rfl⟩
 rw [An] at cA
 clear An
 obtain ⟨T0,Ia⟩ : ∃ T0,jW R=T0:=⟨_,rfl⟩
 rw [Ia] at BC ⊢
 clear Ia
 by_cases hlong:200 < T0.size
 ·have KB:(200:Int) < (T0.size:Int):=oM
  rw [if_pos hlong] at BC
  subst BC
  obtain ⟨c0,c1,c2,c3,c4,c5,c6,c7⟩:=cells8 M1
  go_wp2_with fail
  refine (cA W8).mono ?_
  rintro e W9 ⟨rfl,hb9⟩
  have Q1:=M1.below hb9 M1.lt
  have Q2:=M2.below hb9 M2.lt
  have Q6:=M6.below hb9 M6.lt
  have b10:=b9.trans (hb9.mono b9.size)
  have zI:=ac xJ hb9
  have yJ:=ac yk hb9
  have gr9:W9.grownBy (((W9.setCell ⟨g6,5,none⟩ (xh l2.D)).setCell ⟨g6,6,none⟩ (xh l2.P)).setCell ⟨g6,7,none⟩ (O U l2.n)) (some g6):=ab (g:=g6) (i:=7) (u:=O U l2.n) (ab (g:=g6) (i:=6) (u:=xh l2.P) (ab (g:=g6) (i:=5) (u:=xh l2.D) (World.grownBy.refl W9 (some g6))))
  have AW:=ak zI Q6 eZ gr9
  have AX:=ak yJ Q6 fa gr9
  have R2:ai (((W9.setCell ⟨g6,5,none⟩ (xh l2.D)).setCell ⟨g6,6,none⟩ (xh l2.P)).setCell ⟨g6,7,none⟩ (O U l2.n)) (w.heap.size+1) 42 [F none 0 0,F none 0 0,O U 0,O U 0,O U 0,xh ⟨#[]⟩,xh ⟨#[]⟩,O U 0]:=(((Q2).other (p:=⟨g6,5,none⟩) (by simp only; omega) (xh l2.D)).other (p:=⟨g6,6,none⟩) (by simp only; omega) (xh l2.P)).other (p:=⟨g6,7,none⟩) (by simp only; omega) (O U l2.n)
  have R6:ai (((W9.setCell ⟨g6,5,none⟩ (xh l2.D)).setCell ⟨g6,6,none⟩ (xh l2.P)).setCell ⟨g6,7,none⟩ (O U l2.n)) g6 42 [F TB y.t.length tb,F OB y.o.length ob,O U y.gt,O U y.sd,O U y.ms,xh l2.D,xh l2.P,O U l2.n]:=(((Q6).set 5 (xh l2.D)).set 6 (xh l2.P)).set 7 (O U l2.n)
  have b11:=(((b10).setCell (p:=⟨g6,5,none⟩) zo (xh l2.D)).setCell (p:=⟨g6,6,none⟩) zo (xh l2.P)).setCell (p:=⟨g6,7,none⟩) zo (O U l2.n)
  obtain ⟨z0,z1,z2,z3,z4,z5,z6,z7⟩:=cells8 Q6
  obtain ⟨f0,f1,f2,f3,f4,f5,f6,f7⟩:=frz8 Q6
  clear M1 M2 Q1 Q2 hb9 b9 b10 zI yJ xJ yk gr9 c0 c1 c2 c3 c4 c5 c6 c7
  go_upto_region 13 with fail
  clear M6 Q6 z0 z1 z2 z3 z4 z5 z6 z7 f0 f1 f2 f3 f4 f5 f6 f7
  generalize (((W9.setCell ⟨g6,5,none⟩ (xh l2.D)).setCell ⟨g6,6,none⟩ (xh l2.P)).setCell ⟨g6,7,none⟩ (O U l2.n))=WB at R2 R6 b11 AW AX ⊢
  obtain ⟨p0,p1,p2,p3,p4,p5,p6,p7⟩:=cells8 R6
  obtain ⟨z0,z1,z2,z3,z4,z5,z6,z7⟩:=cells8 R2
  obtain ⟨f0,f1,f2,f3,f4,f5,f6,f7⟩:=frz8 R2
  obtain ⟨Ct,Cu⟩:=dt (F TB y.t.length tb) (F OB y.o.length ob) (O U y.gt) (O U y.sd) (O U y.ms) (xh l2.D) (xh l2.P) (O U l2.n) R2 AW AX
  have bz:=jZ (eW (g:=w.heap.size+1) (b11) xR (F TB y.t.length tb) (F OB y.o.length ob) (O U y.gt) (O U y.sd) (O U y.ms) (xh l2.D) (xh l2.P) (O U l2.n))
  have Ev:=jZ Ct
  have Ew:=jZ Cu
  clear R2 R6 b11 AW AX Ct Cu
  go_wp2_with fail
  refine bodyPost_ret (v:=.tuple #[.agg #[F TB y.t.length tb,F OB y.o.length ob,O U y.gt,O U y.sd,O U y.ms,xh l2.D,xh l2.P,O U l2.n],xh ⟨#[108,111,110,103]⟩]) (by simp [results,Tryz.results14,go_sem, *]) rfl (cz.mk ET.out EO.out EL.out ⟨TB,tb,OB,ob,rfl,Ev.out,Ew.out⟩ bz.out)
 ·have KB : ¬ (200:Int) < (T0.size:Int):=oM
  rw [if_neg hlong] at BC
  subst BC
  obtain ⟨c0,c1,c2,c3,c4,c5,c6,c7⟩:=cells8 M1
  go_wp2_with fail
  refine (cA W8).mono ?_
  rintro e W9 ⟨rfl,hb9⟩
  have Q1:=M1.below hb9 M1.lt
  have Q2:=M2.below hb9 M2.lt
  have Q6:=M6.below hb9 M6.lt
  have b10:=b9.trans (hb9.mono b9.size)
  have zI:=ac xJ hb9
  have yJ:=ac yk hb9
  have gr9:W9.grownBy (((W9.setCell ⟨g6,5,none⟩ (xh l2.D)).setCell ⟨g6,6,none⟩ (xh l2.P)).setCell ⟨g6,7,none⟩ (O U l2.n)) (some g6):=ab (g:=g6) (i:=7) (u:=O U l2.n) (ab (g:=g6) (i:=6) (u:=xh l2.P) (ab (g:=g6) (i:=5) (u:=xh l2.D) (World.grownBy.refl W9 (some g6))))
  have AW:=ak zI Q6 eZ gr9
  have AX:=ak yJ Q6 fa gr9
  have R2:ai (((W9.setCell ⟨g6,5,none⟩ (xh l2.D)).setCell ⟨g6,6,none⟩ (xh l2.P)).setCell ⟨g6,7,none⟩ (O U l2.n)) (w.heap.size+1) 42 [F none 0 0,F none 0 0,O U 0,O U 0,O U 0,xh ⟨#[]⟩,xh ⟨#[]⟩,O U 0]:=(((Q2).other (p:=⟨g6,5,none⟩) (by simp only; omega) (xh l2.D)).other (p:=⟨g6,6,none⟩) (by simp only; omega) (xh l2.P)).other (p:=⟨g6,7,none⟩) (by simp only; omega) (O U l2.n)
  have R6:ai (((W9.setCell ⟨g6,5,none⟩ (xh l2.D)).setCell ⟨g6,6,none⟩ (xh l2.P)).setCell ⟨g6,7,none⟩ (O U l2.n)) g6 42 [F TB y.t.length tb,F OB y.o.length ob,O U y.gt,O U y.sd,O U y.ms,xh l2.D,xh l2.P,O U l2.n]:=(((Q6).set 5 (xh l2.D)).set 6 (xh l2.P)).set 7 (O U l2.n)
  have b11:=(((b10).setCell (p:=⟨g6,5,none⟩) zo (xh l2.D)).setCell (p:=⟨g6,6,none⟩) zo (xh l2.P)).setCell (p:=⟨g6,7,none⟩) zo (O U l2.n)
  obtain ⟨z0,z1,z2,z3,z4,z5,z6,z7⟩:=cells8 Q6
  obtain ⟨f0,f1,f2,f3,f4,f5,f6,f7⟩:=frz8 Q6
  clear M1 M2 Q1 Q2 hb9 b9 b10 zI yJ xJ yk gr9 c0 c1 c2 c3 c4 c5 c6 c7
  go_upto_region 13 with fail
  clear M6 Q6 z0 z1 z2 z3 z4 z5 z6 z7 f0 f1 f2 f3 f4 f5 f6 f7
  generalize (((W9.setCell ⟨g6,5,none⟩ (xh l2.D)).setCell ⟨g6,6,none⟩ (xh l2.P)).setCell ⟨g6,7,none⟩ (O U l2.n))=WB at R2 R6 b11 AW AX ⊢
  obtain ⟨p0,p1,p2,p3,p4,p5,p6,p7⟩:=cells8 R6
  obtain ⟨z0,z1,z2,z3,z4,z5,z6,z7⟩:=cells8 R2
  obtain ⟨f0,f1,f2,f3,f4,f5,f6,f7⟩:=frz8 R2
  obtain ⟨Ct,Cu⟩:=dt (F TB y.t.length tb) (F OB y.o.length ob) (O U y.gt) (O U y.sd) (O U y.ms) (xh l2.D) (xh l2.P) (O U l2.n) R2 AW AX
  have bz:=jZ (eW (g:=w.heap.size+1) (b11) xR (F TB y.t.length tb) (F OB y.o.length ob) (O U y.gt) (O U y.sd) (O U y.ms) (xh l2.D) (xh l2.P) (O U l2.n))
  have Ev:=jZ Ct
  have Ew:=jZ Cu
  clear R2 R6 b11 AW AX Ct Cu
  go_wp2_with fail
  refine bodyPost_ret (v:=.tuple #[.agg #[F TB y.t.length tb,F OB y.o.length ob,O U y.gt,O U y.sd,O U y.ms,xh l2.D,xh l2.P,O U l2.n],xh rep]) (by simp [results,Tryz.results14,go_sem, *]) rfl (cz.mk ET.out EO.out EL.out ⟨TB,tb,OB,ob,rfl,Ev.out,Ew.out⟩ bz.out)
theorem ls (x:aN) (l:Lg) (line:ByteArray) (w:World) (h:aQ w w.heap.size x) (tl:x.t.length≤1048576) (ol:x.o.length≤1048576) (hs:l.D.size+l.P.size≤2000000) (Aj:line.size≤1048576) :
  Calls xi 14 #[aK x l,xh line] w (cz w x l line):=by
 cases xq:eu x l
 ·exact uN x l line w h tl ol hs Aj xq
 ·cases yP:dj.ok ⟨line,⟨#[]⟩⟩
  ·exact sX x l line w h tl ol hs Aj xq yP
  ·by_cases hn:l.n=60
   ·exact rL x l line w h tl ol hs Aj xq yP hn
   ·exact sY x l line w h tl ol hs Aj xq yP hn
end Go.Proofs.YtoeoimhemojdeaaGreatDoor
namespace Go.Proofs
open Go.Shelf
def Tryz.lays156_ren:Go.Shelf.Ren:=⟨fun | 156=>211 | 165=>230 | 166=>231 | 169=>232 | 240=>243 | 241=>244 | 276=>248 | 277=>249 | n=>n,fun | 31=>49 | 9=>9 | 3=>3 | 4=>4 | 0=>0 | 20=>20 | 72=>232 | 76=>174 | 70=>230 | 37=>54 | 75=>173 | 127=>245 | 164=>252 | 5=>5 | 80=>234 | n=>n,fun | n=>n⟩
theorem Tryz.lays156:Go.Proofs.Lays.n156 xi Tryz.lays156_ren:={
 mixed:=by kernel_rfl
 f156:=Tryz.func211.trans (congrArg some (by kernel_rfl))
 f165:=Tryz.func230.trans (congrArg some (by kernel_rfl))
 f166:=Tryz.func231.trans (congrArg some (by kernel_rfl))
 f169:=Tryz.func232.trans (congrArg some (by kernel_rfl))
 f240:=Tryz.func243.trans (congrArg some (by kernel_rfl))
 f241:=Tryz.func244.trans (congrArg some (by kernel_rfl))
 f276:=Tryz.func248.trans (congrArg some (by kernel_rfl))
 f277:=Tryz.func249.trans (congrArg some (by kernel_rfl))
 t0:=Tryz.underlying0
 a0:=Tryz.isAgg0
 z0:=Tryz.sizeOf0
 v0:=Tryz.zeroValue0
 t3:=Tryz.underlying3
 a3:=Tryz.isAgg3
 z3:=Tryz.sizeOf3
 v3:=Tryz.zeroValue3
 t4:=Tryz.underlying4
 a4:=Tryz.isAgg4
 z4:=Tryz.sizeOf4
 v4:=Tryz.zeroValue4
 t9:=Tryz.underlying9
 a9:=Tryz.isAgg9
 z9:=Tryz.sizeOf9
 v9:=Tryz.zeroValue9
 t20:=Tryz.underlying20
 a20:=Tryz.isAgg20
 z20:=Tryz.sizeOf20
 v20:=Tryz.zeroValue20
 t31:=Tryz.underlying49
 a31:=Tryz.isAgg49
 z31:=Tryz.sizeOf49
 v31:=Tryz.zeroValue49
 t37:=Tryz.underlying54
 a37:=Tryz.isAgg54
 z37:=Tryz.sizeOf54
 v37:=Tryz.zeroValue54
 t70:=Tryz.underlying230
 a70:=Tryz.isAgg230
 z70:=Tryz.sizeOf230
 v70:=Tryz.zeroValue230
 t72:=Tryz.underlying232
 a72:=Tryz.isAgg232
 z72:=Tryz.sizeOf232
 v72:=Tryz.zeroValue232
 t75:=Tryz.underlying173
 a75:=Tryz.isAgg173
 z75:=Tryz.sizeOf173
 v75:=Tryz.zeroValue173
 t76:=Tryz.underlying174
 a76:=Tryz.isAgg174
 z76:=Tryz.sizeOf174
 v76:=Tryz.zeroValue174
 t127:=Tryz.underlying245
 a127:=Tryz.isAgg245
 z127:=Tryz.sizeOf245
 v127:=Tryz.zeroValue245
 t164:=Tryz.underlying252
 a164:=Tryz.isAgg252
 z164:=Tryz.sizeOf252
 v164:=Tryz.zeroValue252 }
theorem Tryz.Builder_Extra_156:Builder.Extra xi Tryz.lays156_ren:={
 sizeBuilder:=by kernel_rfl
 liesBuilder:=by kernel_rfl
 t5:=Tryz.underlying5
 a5:=Tryz.isAgg5
 z5:=Tryz.sizeOf5
 v5:=Tryz.zeroValue5
 infoByte:=by kernel_rfl
 cellsByte:=by kernel_rfl
 sizeByte:=by kernel_rfl
 neB5:=by decide }
open Go.RowKit in
theorem Tryz.strings_Join_none (a:Option Addr) (c:Nat) (sep:ByteArray) (w:World) :
  Calls xi 211 #[F a 0 c,xh sep] w fun e w'=>e=.returned (xh ⟨#[]⟩)∧w'=w:=Any.strings_Join_none Tryz.lays156 Tryz.Builder_Extra_156 a c sep w
open Go.RowKit in
theorem Tryz.strings_Join (bk o c:Nat) (xs:List ByteArray) (sep:ByteArray) (w:World) (hcells:∀ (j:Nat) x,xs[j]?=some x→w.cell? ⟨bk,o+j,none⟩=some (xh x)) (Ns:bk < w.heap.size) (hN:xs.length≤140737488355328) (xA:xs.length≤c) (xt:(Lib.join (xs.map (·.data.toList)) sep.data.toList).length≤140737488355328) :
  Calls xi 211 #[F (some ⟨bk,o,none⟩) xs.length c,xh sep] w fun e w'=>e=.returned (xh ⟨(Lib.join (xs.map (·.data.toList)) sep.data.toList).toArray⟩)∧Below w.heap.size w w':=Any.strings_Join Tryz.lays156 Tryz.Builder_Extra_156 bk o c xs sep w hcells Ns hN xA xt
end Go.Proofs
namespace Go.Proofs.YtoeoimhemojdeaaGreatDoor
open Go.RowKit
def qv (l:List (List UInt8)):List Value:=l.map fun b=>xh ⟨b.toArray⟩
theorem uO (l:List (List UInt8)) (b:List UInt8):qv (l++[b])=qv l++[xh ⟨b.toArray⟩]:=by simp [qv]
theorem sZ:(xi.info? 9).map (fun i=>(i.zero,i.size,i.bytes))=some (some (xh ⟨#[]⟩),1,16):=kZ
theorem uP {α:Type} {l:List α} {k:Nat} (h:k < l.length):l.take (k+1)=l.take k++[l[k]]:=sP
theorem qw {w w' : World} {B:Nat} {e:TypeId} {k:Nat} {v:Value} {n:Nat} {xs:List Value} (h:w.ownsRow B e k v n xs) (hb:Below w.heap.size w w'):w'.ownsRow B e k v n xs:=by
 unfold World.ownsRow at *
 obtain ⟨hl,h | ⟨g,cap,cells,hv,hB,hg,r⟩⟩:=h
 ·exact ⟨hl,Or.inl h⟩
 ·exact ⟨hl,Or.inr ⟨g,cap,cells,hv,hB,(hb.block g (ai.lt (cs:=cells.toList) hg)).trans hg,r⟩⟩
theorem vP (l:List (List UInt8)) (A:Option Addr) (c B:Nat) (sep:ByteArray) (w:World) (h:w.ownsRow B 9 1 (F A l.length c) l.length (qv l))
  (hn:l.length≤1000000) (xt:(Lib.join l (bl sep)).length≤1000000000) :
  Calls xi 211 #[F A l.length c,xh sep] w fun e w'=>e=.returned (xh ⟨(Lib.join l (bl sep)).toArray⟩)∧Below w.heap.size w w':=by
 obtain ⟨hl,⟨h0,h1⟩ | ⟨g,cap,cells,hv,hB,hg,h5,h6,h7,h8⟩⟩:=h
 ·have Ee:l = []:=List.eq_nil_of_length_eq_zero oM
  subst Ee
  exact (Tryz.strings_Join_none A c sep w).mono fun e w' ⟨he,hw⟩=>⟨he,hw ▸ Below.refl _ _⟩
 ·injection hv with hA hn' hc
  subst hA; subst hc
  have hx:(l.map fun b=>(⟨b.toArray⟩ : ByteArray)).length=l.length:=sP
  have hm:(l.map fun b=>(⟨b.toArray⟩ : ByteArray)).map (·.data.toList)=l:=by simp [List.map_map,Function.comp_def]
  have hJ:=Tryz.strings_Join g 0 c (l.map fun b=>(⟨b.toArray⟩ : ByteArray)) sep w (fun j x hj=>by
   have GM:j < l.length:=by have:=(List.getElem?_eq_some_iff.1 hj).1; simpa using this
   have hq:(qv l)[j]?=some (xh x):=by
    rw [qv,List.getElem?_map]; rw [List.getElem?_map] at hj
    rw [List.getElem?_eq_getElem GM] at hj ⊢
    simpa using hj
   rw [← h8,List.getElem?_take_of_lt oM] at hq
   rw [Nat.zero_add,(ai.cell (cs:=cells.toList) hg j)]
   exact hq) (ai.lt (cs:=cells.toList) hg) (by rw [hx]; omega) (by rw [hx]; exact h5) (by rw [hm]; have:=xt; unfold bl at this; omega)
  rw [hm,hx] at hJ
  exact hJ
theorem nj (sep:List UInt8) (m:Nat):∀ l:List (List UInt8),(∀ x ∈ l,x.length≤m)→(Lib.joinTail sep l).length≤l.length * (sep.length+m)
 | [],_=>by simp [Lib.joinTail]
 | x :: l,h=>by
  have h1:=nj sep m l fun y hy=>h y (List.mem_cons_of_mem _ hy)
  have h2:=h x List.mem_cons_self
  have e:Lib.joinTail sep (x :: l)=sep++x++Lib.joinTail sep l:=by simp [Lib.joinTail]
  rw [e,List.length_append,List.length_append,List.length_cons,Nat.succ_mul]; omega
theorem wt (sep:List UInt8) (m:Nat) (l:List (List UInt8)) (h:∀ x ∈ l,x.length≤m):(Lib.join l sep).length≤l.length * (sep.length+m):=by
 cases l with
 | nil=>simp [Lib.join_nil]
 | cons x l =>
  have h1:=nj sep m l fun y hy=>h y (List.mem_cons_of_mem _ hy)
  have h2:=h x List.mem_cons_self
  rw [Lib.join_cons,List.length_append,List.length_cons,Nat.succ_mul]; omega
theorem uQ {n:Int} (h0:0≤n) (h1:n≤1000000000):(Lib.itoa n).length≤100:=by
 have h3:(⟨(Lib.itoa n).toArray⟩ : ByteArray).size≤100:=cU h0 h1
 rw [← bO (Lib.itoa n),ao]; exact h3
theorem pk (A:Option Addr) (c:Nat) (l:List Int) (sep:ByteArray) (w:World) (h:iS w w.heap.size A l) (Nt:l.length≤9)
  (hr:∀ i (hi:i < l.length),0≤l[i]∧l[i]≤1000000) (hs:sep.size≤10) (ht:jj w) :
  Calls xi 184 #[F A l.length c,xh sep] w fun e w'=>e=.returned (xh ⟨(Lib.join (l.map Lib.itoa) (bl sep)).toArray⟩)∧Below w.heap.size w w':=by
 have hl:=h.big
 have yQ:=iS.ints h
 have GM:(Lib.join (l.map Lib.itoa) (bl sep)).length≤1000000000:=by
  have h1:=wt (bl sep) 100 (l.map Lib.itoa) fun x hx=>by
   obtain ⟨n,hn,rfl⟩:=List.mem_map.1 hx
   obtain ⟨i,hi,rfl⟩:=List.getElem_of_mem hn
   exact uQ (by have:=hr i hi; omega) (by have:=hr i hi; omega)
  rw [ao,List.length_map] at h1
  have h2:l.length * (sep.size+100)≤9 * 110:=Nat.mul_le_mul Nt oM
  omega
 replace hr:=jZ hr
 go_enter Tryz.func184,Tryz.ntmps184
 go_wp2_with fail
 go_loopw [5,10] (fun out i wr=>∃ (k:Nat),k≤l.length∧i=O U k∧Hid (wr.ownsRow w.heap.size 9 1 out k (qv ((l.take k).map Lib.itoa)))∧(Below w.heap.size w wr)) (fun _ i _=>l.length - (intOf i).toNat)
 case atStart=>exact ⟨0,Nat.zero_le _,rfl,(World.ownsRow_nil _ _ _ _),Below.refl _ _⟩
 case round =>
  obtain ⟨k,hk,rfl,HO,zc⟩:=hrel
  obtain ⟨q,rfl⟩ : ∃ q:aq w.heap.size w,wr=q.val:=⟨⟨wr,zc⟩,rfl⟩
  by_cases xu:k < l.length
  ·obtain ⟨b,off,rfl,hb,hcell⟩:=yQ oM
   have c0:=hcell k xu
   obtain ⟨f1,f2⟩:=hr.out k xu
   have HT:=jZ (uP xu)
   obtain ⟨f,LP⟩ : ∃ f,f=l[k]:=⟨_,rfl⟩
   rw [← LP] at c0 f1 f2 HT
   clear LP hcell yQ
   obtain ⟨fv,KC⟩ : ∃ s:ByteArray,s=⟨(Lib.itoa f).toArray⟩:=⟨_,rfl⟩
   have HQ:=ht.at q
   have NUMF:∀ W:World,jj W→Calls xi 69 #[O U f] W fun e w'=>e=.returned (xh fv)∧Below W.heap.size W w':=by
    intro W hW; rw [KC]; exact dE _ _ oM oM hW
   replace NUMF:=jZ NUMF
   have Nu:=jZ KC; clear KC
   go_wp2_with (first
    | (go_at_call 69; refine (NUMF.out _ HQ).mono ?_; rintro e w4 ⟨rfl,xy⟩; have hb5:Below w.heap.size w w4:=zc.trans (xy.mono zc.size); have CK:=jZ (qw HO.out xy); have IL:=hb5.size)
    | (at_builtin; refine cw (w0:=w4) rfl _ _ 49 rfl 9 (xh ⟨#[]⟩) 1 16 Tryz.underlying49 sZ rfl (by decide) (by omega) w.heap.size _ _ _ rfl CK #[xh fv] 1 _ rfl (by first | rfl | exact Array.size_push _) rfl (by simp [Value.oneCell']) (by omega) IL rfl rfl rfl rfl ?_; intro v' w6 Dw zo xT))
   obtain ⟨A3,c3,rfl⟩:=az Dw.out
   go_wp2
   go_roundw
   case rel=>exact ⟨k+1,oM,by go_num,by rw [HT.out,List.map_append,List.map_cons,List.map_nil,uO,← Nu.out]; exact Dw,hb5.trans xT⟩
   case measure=>simp [intOf]; omega
  ·have ek:k=l.length:=oM
   subst ek
   rw [List.take_length] at HO
   obtain ⟨A3,c3,rfl⟩:=az HO.out
   clear yQ
   have HJ:=jZ (vP (l.map Lib.itoa) A3 c3 w.heap.size sep)
   rw [List.length_map] at HJ
   go_wp2_with (go_at_call 211; refine (HJ.out _ HO.out oM GM).mono ?_; rintro e w7 ⟨rfl,yX⟩)
   go_ret
   exact ⟨rfl,zc.trans (yX.mono zc.size)⟩
theorem qx (o:ae) (gk:Nat) (kd:Int) (w:World) (hk:gk < w.heap.size) (hc:w.cell? ⟨gk,0,none⟩=some (O U kd)) :
  Calls xi 183 (#[o.val]++#[.pointer (some ⟨gk,0,none⟩)]) w fun e w'=>e=.returned (.bool (decide (o.p=kd)))∧Below w.heap.size w w':=by
 show Calls xi 183 #[o.val,.pointer (some ⟨gk,0,none⟩)] w _
 have hc' : (w.alloc (.cells #[O U o.k,O U o.p,O U o.c] 147)).cell? ⟨gk,0,none⟩=some (O U kd):=(bZ w _).cell hk |>.trans hc
 obtain ⟨v,hv⟩ : ∃ v,(o.p == kd)=v:=⟨_,rfl⟩
 have HV:Hid (decide (o.p=kd)=v):=by rw [← hv]; unfold Hid; rw [Bool.eq_iff_iff]; simp
 cases v
 all_goals
  go_enter Tryz.func183,Tryz.ntmps183
  go_wp2
  go_ret
  exact ⟨by rw [HV.out]; rfl,jB.alloc nR _⟩
def iN (pp:Value) (w:World):Nat :=
 match pp with
 | .pointer (some a)=>(match w.cell? a with | some (.int _ p)=>(1000 - p).toNat | _=>0)
 | _=>0
theorem nk {w:World} {g:Nat} {t:TypeId} {p:Int} (h:ai w g t [O U p]):iN (.pointer (some ⟨g,0,none⟩)) w=(1000 - p).toNat:=by
 unfold iN
 simp only [h.cell 0,List.getElem?_cons_zero]
set_option maxRecDepth 20000 in
theorem kb (x:aN) (w:World) (h:aQ w w.heap.size x) :
  Calls xi 152 #[x.val] w fun e w'=>e=.returned (.tuple #[O U (dM x),.bool (dn x)])∧Below w.heap.size w w':=by
 have De:∀ (fn:Fn) (first cap:Array Value) (w:World),(Instr.makeFunc fn first cap).run xi w=.ok (.func fn first cap) w:=fun _ _ _ _=>rfl
 have b1:=bZ w (.cells #[F x.TA x.t.length x.tc,F x.OA x.o.length x.oc,O U x.gt,O U x.sd,O U x.ms] 40)
 have hA:=iy h 40
 have cG:=fun W hW=>aZ x w.heap.size W hW
 cases hg:ap x
 ·have HF:Hid (dM x=0∧dn x=false):=by unfold dM dn; rw [hg]; exact ⟨rfl,rfl⟩
  rw [hg] at cG
  clear hg
  go_enter Tryz.func152,Tryz.ntmps152
  go_wp2_with fail
  generalize w.alloc (.cells #[F x.TA x.t.length x.tc,F x.OA x.o.length x.oc,O U x.gt,O U x.sd,O U x.ms] 40)=W at b1 hA ⊢
  refine (cG _ hA).mono ?_
  rintro e w1 ⟨rfl,hb⟩
  go_wp2
  go_ret2
  exact ⟨by rw [HF.out.1,HF.out.2]; rfl,av b1 hb⟩
 ·have G:=bu.1 hg
  have ol:=G.ol
  have BQ:=jZ G.oall
  have Kw:Hid (ap x=true):=hg
  have zG:∀ r ∈ x.o,1≤r.c:=fun r hr=>by
   obtain ⟨i,hi,rfl⟩:=List.getElem_of_mem hr
   exact (ae.bounds (G.oall i hi)).2.2.1
  have Cv:∀ r ∈ x.o,1≤r.p∧r.p≤999:=fun r hr=>by
   obtain ⟨i,hi,rfl⟩:=List.getElem_of_mem hr
   exact (ae.bounds (G.oall i hi)).2.1
  have Cx:=jZ (uE x.o zG Cv)
  rw [hg] at cG
  clear hg G zG Cv
  by_cases xt:0 < x.o.length
  ·have HF:Hid (dM x=(dL x.o x.o (0,0)).1∧dn x=true):=by
    have:dn x=true:=by unfold dn; rw [Kw.out,jD xt]; rfl
    unfold dM; rw [this]; exact ⟨rfl,rfl⟩
   have xw:((x.o.length:Int) == 0)=false:=by rw [beq_eq_false_iff_ne]; omega
   go_enter Tryz.func152,Tryz.ntmps152
   go_wp2_with fail
   generalize w.alloc (.cells #[F x.TA x.t.length x.tc,F x.OA x.o.length x.oc,O U x.gt,O U x.sd,O U x.ms] 40)=W at b1 hA ⊢
   obtain ⟨s0,s1,s2,s3,s4⟩:=hA.s
   refine (aX (cG _ hA)).mono ?_
   rintro e w1 ⟨rfl,q1,rfl⟩
   have Dj:=ai.new q1.val 3 #[O U 1]
   have Nv:=q1.below.alloc q1.size (.cells #[O U 1] 3)
   have Lb:=q1.size
   go_wp2
   go_loopw [4,5,6] (fun bb mm pp wr=>∃ (k g:Nat) (p:Int) (b:Int × Int),(k:Int)+p=1000∧1≤p∧pp=.pointer (some ⟨g,0,none⟩)∧bb=O U b.1∧mm=O U b.2∧W.heap.size≤g∧Hid (ai wr g 3 [O U p])∧Below W.heap.size W wr∧Hid (iH x.o k p b=dL x.o x.o (0,0))) (fun _ _ pp wr=>iN pp wr)
   case atStart=>exact ⟨999,q1.val.heap.size,1,(0,0),oM,oM,rfl,rfl,rfl,Lb,Dj,Nv,Cx.out⟩
   case round =>
    obtain ⟨k,g,p,⟨b1',b2'⟩,Nw,Cv,rfl,rfl,rfl,hg,HL,zc,HR⟩:=hrel
    have c0:wr.cell? ⟨g,0,none⟩=some (O U p):=HL.out.cell 0
    cases k with
    | zero =>
     have hp:p=1000:=oM
     subst hp
     have HE:Hid ((b1',b2')=dL x.o x.o (0,0)):=HR.out
     go_wp2
     go_ret2
     exact ⟨by rw [HF.out.1,HF.out.2,← HE.out]; rfl,b1.trans (zc.mono b1.size)⟩
    | succ k =>
     have Ca:p≤999:=oM
     have AA:(k:Int)+p≤999:=oM
     have IW:999≤(k:Int)+p:=oM
     clear Nw
     have HS:Hid (iH x.o (k+1) p (b1',b2')=iH x.o k (p+1) (if b2' < j0 x.o p then (p,j0 x.o p) else (b1',b2'))):=rfl
     have xu:=HL.out.lt
     have HM:=nk HL.out
     go_wp2_with fail
     refine (fG (fun o=>decide (o.p=p)) 183 #[.pointer (some ⟨g,0,none⟩)] Tryz.call183 x w.heap.size wr (fun o q=>qx o g p q.val (jL xu q.size) ((q.cell xu).trans c0)) (hA.at ⟨wr,zc⟩) ol BQ.out).mono ?_
     rintro e w2 ⟨rfl,xn⟩
     have c1:w2.cell? ⟨g,0,none⟩=some (O U p):=(xn.cell xu).trans c0
     have KD:=zc.trans (xn.mono zc.size)
     have zd:=ai.new w2 3 #[O U (p+1)]
     have LQ:=KD.alloc KD.size (.cells #[O U (p+1)] 3)
     have Cz:=KD.size
     have LR:aW (fun o=>decide (o.p=p)) x.o=j0 x.o p:=rfl
     rw [LR]
     clear LR
     obtain ⟨V,hV⟩ : ∃ V,j0 x.o p=V:=⟨_,rfl⟩
     rw [hV] at HS
     rw [hV]
     clear hV c0
     have LU:=jZ (nk zd)
     have ES:=jZ HM; clear HM
     by_cases Cg:b2' < V
     ·rw [if_pos Cg] at HS
      go_wp2
      go_roundw
      case rel=>exact ⟨k,w2.heap.size,p+1,(p,V),oM,oM,rfl,rfl,rfl,Cz,zd,LQ,by have h1:=HR.out; rw [HS.out] at h1; exact h1⟩
      case measure=>show iN _ _ < iN _ _; rw [ES.out,LU.out]; omega
     ·rw [if_neg Cg] at HS
      have hv:V≤b2':=oM
      clear Cg
      go_wp2
      go_roundw
      case rel=>exact ⟨k,w2.heap.size,p+1,(b1',b2'),oM,oM,rfl,rfl,rfl,Cz,zd,LQ,by have h1:=HR.out; rw [HS.out] at h1; exact h1⟩
      case measure=>show iN _ _ < iN _ _; rw [ES.out,LU.out]; omega
  ·have HF:Hid (dM x=0∧dn x=false):=by
    have:dn x=false:=by unfold dn; rw [jE xt,Bool.and_false]
    unfold dM; rw [this]; exact ⟨rfl,rfl⟩
   have xw:((x.o.length:Int) == 0)=true:=by rw [beq_iff_eq]; omega
   go_enter Tryz.func152,Tryz.ntmps152
   go_wp2_with fail
   generalize w.alloc (.cells #[F x.TA x.t.length x.tc,F x.OA x.o.length x.oc,O U x.gt,O U x.sd,O U x.ms] 40)=W at b1 hA ⊢
   obtain ⟨s0,s1,s2,s3,s4⟩:=hA.s
   refine (aX (cG _ hA)).mono ?_
   rintro e w1 ⟨rfl,q1,rfl⟩
   go_wp2
   go_ret2
   exact ⟨by rw [HF.out.1,HF.out.2]; rfl,b1.trans (q1.below.mono b1.size)⟩
theorem oK {s:List UInt8} {n:Int} (h:df s=some n):Lib.atoiAll s=.ok n:=by
 obtain ⟨h1,h2⟩:=jc h
 rw [← h2]; exact rB h1
theorem qz (s:ByteArray) (w:World) (hs:s.size≤1000000000) (hL:LW w) :
  Calls xi 96 #[xh s] w (jy s w):=by
 rcases ha:Lib.atoiAll s.data.toList with v | _ | _
 ·skip
  obtain ⟨v0,v1⟩:=Lib.atoiAll_bounds ha
  have HA:=jZ (Tryz.strconv_Atoi_ok s oM v ha w)
  have hv:∀ n,df (bl s)=some n→n=v:=fun n hn=>by
   have h1:=oK hn
   have h2:Lib.atoiAll (bl s)=.ok v:=ha
   rw [h2] at h1; injection h1 with h1; exact h1.symm
  by_cases hr:bX v (-999999) 999999=true
  ·have OE:=jd.1 hr
   have HI:Hid (∀ W,jj W→Calls xi 69 #[O U v] W fun e w'=>e=.returned (xh ⟨(Lib.itoa v).toArray⟩)∧Below W.heap.size W w'):=fun W hW=>dE v W v0 v1 hW
   obtain ⟨nt,Cf⟩ : ∃ x:ByteArray,x=⟨(Lib.itoa v).toArray⟩:=⟨_,rfl⟩
   have AU:bl nt=Lib.itoa v:=by rw [Cf,bO]
   rw [← Cf] at HI
   clear Cf
   have HZ:Hid ((nt.toList == s.toList)=(df (bl s)).isSome∧((nt.toList == s.toList)=true→df (bl s)=some v)∧((nt.toList == s.toList)=false→df (bl s)=none)):=by
    rw [iM,AU]
    by_cases hq:Lib.itoa v=bl s
    ·have h1:=nI (n:=v) ⟨oM,oM⟩ hq
     rw [h1]; simp [hq,Hid]
    ·have h1:df (bl s)=none:=by
      cases LY:df (bl s) with
      | none=>rfl
      | some n=>exfalso; have h2:=hv n LY; subst h2; exact hq (jc LY).2
     rw [h1]; simp [hq,Hid]
   clear AU hv
   obtain ⟨bb,yp⟩ : ∃ b:Bool,(nt.toList == s.toList)=b:=⟨_,rfl⟩
   rw [yp] at HZ
   have fin:∀ w2,Below w.heap.size w w2→Hid (LW w2):=fun w2 h2=>hL.then h2
   go_enter Tryz.func96,Tryz.ntmps96
   go_wp2_with fail
   refine HA.out.mono ?_
   rintro e w1 ⟨rfl,Bm⟩
   have xp:Below w.heap.size w w1:=by
    rcases Bm with rfl | ⟨t,rfl⟩
    ·exact Below.refl _ _
    ·exact Lib.bytesWorld_below _ _ _
   have Cy:=fin w1 xp
   clear Bm fin
   go_wp2_with fail
   refine (aM _ _ _ _).mono ?_
   rintro e w' ⟨rfl,rfl⟩
   rw [hr]
   go_wp2_with fail
   refine (HI.out _ Cy.out.tab).mono ?_
   rintro e w2 ⟨rfl,xn⟩
   have HB:=jZ (av xp xn)
   clear xp xn Cy
   cases bb
   ·go_wp2_with fail
    go_ret2
    exact ⟨by rw [HZ.out.2.2 (by first | trivial | rfl)]; rfl,HB.out⟩
   ·go_wp2_with fail
    go_ret2
    exact ⟨by rw [HZ.out.2.1 (by first | trivial | rfl)]; rfl,HB.out⟩
  ·have HZ:Hid (df (bl s)=none):=by
    cases hq:df (bl s) with
    | none=>rfl
    | some n =>
     exfalso
     have h2:=hv n hq; subst h2
     obtain ⟨h3,_⟩:=jc hq
     exact hr (jd.2 ⟨h3.1,h3.2⟩)
   have hr' : bX v (-999999) 999999=false:=by simpa using hr
   clear hv hr
   go_enter Tryz.func96,Tryz.ntmps96
   go_wp2_with fail
   refine HA.out.mono ?_
   rintro e w1 ⟨rfl,Bm⟩
   have xp:Below w.heap.size w w1:=by
    rcases Bm with rfl | ⟨t,rfl⟩
    ·exact Below.refl _ _
    ·exact Lib.bytesWorld_below _ _ _
   clear Bm
   go_wp2_with fail
   refine (aM _ _ _ _).mono ?_
   rintro e w' ⟨rfl,rfl⟩
   rw [hr']
   go_wp2_with fail
   go_ret2
   exact ⟨by rw [HZ.out]; rfl,xp⟩
 ·skip
  have HZ:Hid (df (bl s)=none):=by
   cases hq:df (bl s) with
   | none=>rfl
   | some n=>exfalso; have h1:=oK hq; rw [show Lib.atoiAll (bl s)=_ from ha] at h1; cases h1
  obtain ⟨ev,Ij,Er⟩:=hL.syn
  have HA:=jZ (Tryz.strconv_Atoi_syntax s oM ha ev w Ij Er)
  clear Ij Er
  go_enter Tryz.func96,Tryz.ntmps96
  go_wp2_with fail
  refine HA.out.mono ?_
  rintro e w1 ⟨N,rfl,_,_,xp⟩
  go_wp2_with fail
  go_ret2
  exact ⟨by rw [HZ.out]; rfl,xp⟩
 ·skip
  have HZ:Hid (df (bl s)=none):=by
   cases hq:df (bl s) with
   | none=>rfl
   | some n=>exfalso; have h1:=oK hq; rw [show Lib.atoiAll (bl s)=_ from ha] at h1; cases h1
  obtain ⟨ev,Ij,Er⟩:=hL.rng
  have HA:=jZ (Tryz.strconv_Atoi_range s oM ha ev w Ij Er)
  clear Ij Er
  go_enter Tryz.func96,Tryz.ntmps96
  go_wp2_with fail
  refine HA.out.mono ?_
  rintro e w1 ⟨N,rfl,_,_,xp⟩
  go_wp2_with fail
  go_ret2
  exact ⟨by rw [HZ.out]; rfl,xp⟩
end Go.Proofs.YtoeoimhemojdeaaGreatDoor
