/- Lemmas. -/
import Derived.ProofKit
import Derived.ChangeOld
import Derived.ShutString
import Derived.OpenShut
import Derived.Deep.Slices
import Derived.Deep.Fields
import Derived.Laws.IdiomStrings
import Derived.Test.YtoeoimhemojdeaaGreatDoorFc28

set_option linter.unusedVariables false
set_option linter.unusedSimpArgs false
set_option maxHeartbeats 8000000
open Go.Value renaming int → O, slice → F, string → vw
open Go.IntKind renaming i64 → U
open Go.Proofs.Tryz renaming prog → vx

namespace Go.Proofs.YtoeoimhemojdeaaGreatDoor
open Go.RowKit
theorem jO {w:World} {B:Nat} {A:Option Addr} {c:Nat} {s:ByteArray} {b:UInt8} (h:w.ownsRow B 9 1 (F A (aK b (bl s)).length c) (aK b (bl s)).length (eD (aK b (bl s)))) :
  ∃ g,A=some ⟨g,0,none⟩∧w.cell? ⟨g,0,none⟩=some (vw (aV s b))∧B≤g∧g < w.heap.size:=by
 obtain ⟨ps,AJ,_⟩:=gp b (bl s)
 have vG:0 < (aK b (bl s)).length:=by rw [AJ]; simp
 obtain ⟨g,hA⟩ : ∃ g,A=some ⟨g,0,none⟩:=by
  obtain ⟨_,h0 | ⟨g,cap,cur,hv,_⟩⟩:=h
  ·have:=h0.2; omega
  ·injection hv with e1 e2 e3; exact ⟨g,e1⟩
 subst hA
 refine ⟨g,rfl, ?_,(h.lt g rfl).1,(h.lt g rfl).2⟩
 rw [h.cellAt 0 oM,AJ]
 rfl
set_option maxRecDepth 100000 in
theorem qu (k:Nat) (s:ByteArray) (w:World) (hk:k≤1000) (hs:s.size≤1000000) :
  Calls vx 128 #[vw s,O U k] w (ny k s w):=by
 have b1:=bZ w (.cells #[vw ⟨#[]⟩,vw ⟨#[]⟩] 62)
 have L1:=ah.new w 62 #[vw ⟨#[]⟩,vw ⟨#[]⟩]
 obtain ⟨t,yh⟩ : ∃ t:ByteArray,t=⟨(Lib.itoa (k:Int)).toArray⟩:=⟨_,rfl⟩
 have Eh:t.size≤100:=by rw [yh]; exact cE oM oM
 have HN:Hid (∀ W,Calls vx 71 #[O U k] W fun e w'=>e=.returned (vw t)∧Below W.heap.size W w'):=fun W=>by rw [yh]; exact cn (k:Int) W oM oM
 have HT:Hid (bl t=Lib.itoa (k:Int)):=by rw [yh,Hid,bL]
 have Ac:Hid (bl (t++⟨#[32]⟩)=Lib.itoa (k:Int)++[32]):=by rw [Hid,dk,HT.out]; rfl
 clear yh
 have z1:(⟨#[32]⟩ : ByteArray).size=1:=rfl
 have z2:(⟨#[10]⟩ : ByteArray).size=1:=rfl
 have BC:=jZ (fun W=>iC s 35 W oM)
 obtain ⟨x,hx⟩ : ∃ x:ByteArray,x=aV s 35:=⟨_,rfl⟩
 have xT:bl x=cw 35 (bl s):=by rw [hx]; unfold aV; rw [bL]
 have Ar:x.size≤1000000:=by rw [← ao,xT]; have:=li 35 (bl s); rw [ao] at this; omega
 have wG:Hid (∀ (W:World) (B:Nat) (A:Option Addr) (c:Nat),W.ownsRow B 9 1 (F A (aK 35 (bl s)).length c) (aK 35 (bl s)).length (eD (aK 35 (bl s)))→∃ g,A=some ⟨g,0,none⟩∧W.cell? ⟨g,0,none⟩=some (vw x)∧B≤g∧g < W.heap.size):=fun W B A c h=>by
  rw [hx]; exact jO h
 have Ht:1≤(aK 35 (bl s)).length:=by obtain ⟨ps,e,_⟩:=gp 35 (bl s); rw [e]; simp
 have Hu:(aK 35 (bl s)).length≤1000001:=by have:=gn 35 (bl s) []; rw [ao] at this; unfold aK; omega
 obtain ⟨n0,xH⟩ : ∃ n,n=(aK 35 (bl s)).length:=⟨_,rfl⟩
 rw [← xH] at BC wG Ht Hu
 clear hx xH
 obtain ⟨p,hp⟩ : ∃ p:ByteArray,p=t++⟨#[32]⟩:=⟨_,rfl⟩
 have Kq:p.size=t.size+1:=by rw [hp,bg]; rfl
 by_cases yP:(Lib.itoa (k:Int)++[32]) <+: bl x
 ·have hsplit:=qs yP
  have Kr:p.size≤x.size:=by have:=yP.length_le; rw [← Ac.out,← hp,ao,ao] at this; exact this
  obtain ⟨u,hu⟩ : ∃ u:ByteArray,u=x.extract p.size x.size:=⟨_,rfl⟩
  have Bb:bl u=(bl x).drop (Lib.itoa (k:Int)++[32]).length:=by
   rw [hu,bE,List.take_of_length_le (by rw [ao]; exact Nat.le_refl _),← Ac.out,← hp,ao]
  rw [← Bb] at hsplit
  have LM:u.size≤1000000:=by rw [← ao,Bb,List.length_drop,ao]; omega
  have d1:decide ((x.size:Int) < (p.size:Int))=false:=jE oM
  have d2:((x.extract 0 p.size).toList == p.toList)=true:=by
   rw [lm]; refine jD ?_
   have e1:bl p=Lib.itoa (k:Int)++[32]:=by rw [hp]; exact Ac.out
   rw [bE,List.drop_zero,e1,hsplit,show p.size=(Lib.itoa (k:Int)++[32]).length by rw [← e1]; rfl]
   exact List.take_left' rfl
  have Fj:Hid (∀ W,Calls vx 58 #[vw u,.int .u8 64] W fun e w'=>∃ A c,e=.returned (F A (aK 64 (bl u)).length c)∧w'.ownsRow W.heap.size 9 1 (F A (aK 64 (bl u)).length c) (aK 64 (bl u)).length (eD (aK 64 (bl u)))∧Below W.heap.size W w'):=fun W=>by
   exact iC u 64 W oM
  have xV:Hid (∀ (W:World) (B:Nat) (A:Option Addr) (c:Nat),W.ownsRow B 9 1 (F A (aK 64 (bl u)).length c) (aK 64 (bl u)).length (eD (aK 64 (bl u)))→∃ g,A=some ⟨g,0,none⟩∧W.cell? ⟨g,0,none⟩=some (vw (aV u 64))∧B≤g∧g < W.heap.size):=fun W B A c h=>jO h
  have Hv:1≤(aK 64 (bl u)).length:=by obtain ⟨ps,e,_⟩:=gp 64 (bl u); rw [e]; simp
  have Hw:(aK 64 (bl u)).length≤1000001:=by have:=gn 64 (bl u) []; rw [ao] at this; unfold aK; omega
  obtain ⟨n1,ym⟩ : ∃ n,n=(aK 64 (bl u)).length:=⟨_,rfl⟩
  rw [← ym] at Fj xV Hv Hw
  clear ym
  have wS:(aV u 64).size≤u.size:=by unfold aV; rw [← ao,bL]; have:=li 64 (bl u); rw [ao] at this; omega
  have Hx:u.size=x.size - p.size:=by rw [hu,← ao,bE,List.length_drop,List.length_take,ao]; omega
  have LO:Hid (p=t++⟨#[32]⟩):=hp
  subst hp
  rw [Kq] at Kr d1 d2 Hx hu
  have HU:=jZ hu; clear hu
  have LP:=jZ Hx; clear Hx
  have i1:(t.size:Int)+1≤(x.size:Int):=oM
  by_cases hat:(64:UInt8) ∈ bl u
  ·have hparts:=cP hat
   have wO:=pj (c:=bl (aV u 64)) (r:=bl (ba u 64)) (s:=bl s) (k:=k) (by rw [← xT,hsplit]; rw [show bl (aV u 64)++64 :: bl (ba u 64)=bl u by unfold aV ba; rw [bL,bL]; exact hparts.symm]) (by unfold aV; rw [bL]; exact fy 64 _)
   have vG:=congrArg List.length hparts
   have Jb:(aV u 64).size=(cw 64 (bl u)).length:=by unfold aV; rw [← ao,bL]
   simp only [List.length_append,List.length_cons,List.length_drop,ao] at vG
   have LQ:(aV u 64).size+1≤u.size:=oM
   have d3:(((aV u 64).size:Int) == (u.size:Int))=false:=by simp; omega
   have HR:Hid (u.extract ((aV u 64).size+1) u.size=ba u 64):=by
    unfold ba Hid; refine dW ?_
    rw [bE,List.take_of_length_le (by rw [ao]; exact Nat.le_refl _),Jb]
   have IZ:(ba u 64).size≤1000000:=by unfold ba; rw [← ao,bL,List.length_drop,ao]; omega
   have HG:=jZ (fun W=>gE ⟨aV u 64,ba u 64⟩ W (by simp only; omega) (by simp only; omega))
   have zK:=jZ (fun W=>mw k ⟨aV u 64,ba u 64⟩ W hk (by simp only; omega) IZ)
   obtain ⟨ln,zA⟩ : ∃ ln:ByteArray,ln=⟨(bO k (bl (aV u 64)) (bl (ba u 64))).toArray⟩:=⟨_,rfl⟩
   simp only [← zA] at zK
   have BE:bl ln=bO k (bl (aV u 64)) (bl (ba u 64)):=by rw [zA,bL]
   clear vG Jb hparts hat
   cases vF:dq.ok ⟨aV u 64,ba u 64⟩
   ·rw [vF] at HG
    have HD:Hid (dU k (bl s)=none):=by
     rw [Hid,wO,if_neg (fun h=>by rw [show dq.ok ⟨aV u 64,ba u 64⟩=eN (bl (aV u 64)) (bl (ba u 64)) from rfl,h.1] at vF; cases vF)]
    clear yP hsplit Bb xT wO vF zA BE
    go_enter Tryz.func128,Tryz.ntmps128
    go_wp2_with fail
    generalize w.alloc (.cells #[vw ⟨#[]⟩,vw ⟨#[]⟩] 62)=W at b1 L1 ⊢
    generalize hg:w.heap.size=g at L1 ⊢
    refine (HN.out _).mono ?_
    rintro e w2 ⟨rfl,vC⟩
    go_wp2_with fail
    refine (BC.out _).mono ?_
    rintro e w3 ⟨A3,c3,rfl,wa,vQ⟩
    obtain ⟨g3,rfl,x0,hg3,hg3'⟩:=wG.out _ _ _ _ wa
    have xg:=av vC vQ
    have L3:=L1.below xg L1.lt
    clear wa
    go_wp2_with fail
    rw [← HU.out]
    refine (Fj.out _).mono ?_
    rintro e w4 ⟨A4,c4,rfl,vZ,vN⟩
    obtain ⟨g4,rfl,x1,wu,hg4'⟩:=xV.out _ _ _ _ vZ
    have hb14:=av xg vN
    have L4:=L3.below vN L3.lt
    clear vZ
    have Jc:((aV u 64).size:Int)+1≤(u.size:Int):=oM
    go_wp2_with fail
    rw [HR.out]
    have N5:=ah.new w4 62 #[vw (aV u 64),vw (ba u 64)]
    have L5:=L4.alloc (.cells #[vw (aV u 64),vw (ba u 64)] 62)
    have hb5:=(av b1 hb14).trans ((Below.refl w.heap.size w4).alloc (by have:=(av b1 hb14).size; omega) (.cells #[vw (aV u 64),vw (ba u 64)] 62))
    generalize w4.alloc (.cells #[vw (aV u 64),vw (ba u 64)] 62)=W5 at N5 L5 hb5 ⊢
    have vJ:g ≠ w4.heap.size:=by have:=L4.lt; omega
    generalize w4.heap.size=ge at N5 vJ ⊢
    have Az:w.heap.size≤g:=oM
    clear L1 L3 L4 x0 x1
    refine gF (fun W9=>(∃ a b,ah W9 g 62 [vw a,vw b])∧ah W9 ge 62 [vw (aV u 64),vw (ba u 64)]∧Below w.heap.size w W9) (fun W8 W9=>ah W8 g 62 [vw (aV u 64),vw (ba u 64)]→ah W9 g 62 [vw (aV u 64),vw (ba u 64)]) kZ kZ kZ ⟨⟨_,_,L5.below jB.drew L5.lt⟩,N5.below jB.drew N5.lt,hb5.drew⟩ ?_
    simp only [aw,Act.put,sA,gs0,gs1,Nat.zero_add,Nat.reduceAdd]
    refine aJ (.agg #[vw (aV u 64),vw (ba u 64)]) (fun vs w9 vy hB K9 vz=>?_) ?_
    ·obtain ⟨⟨a9,b9,vA⟩,vP,vS⟩:=vy
     have q0:w9.cell? ⟨ge,0,none⟩=some (vw (aV u 64)):=vP.cell 0
     have q1:w9.cell? ⟨ge,1,none⟩=some (vw (ba u 64)):=vP.cell 1
     go_simp
     exact vz _ _ rfl ⟨⟨a9,b9,vA⟩,vP,vS⟩ id
    refine aJ (.agg #[vw (aV u 64),vw (ba u 64)]) (fun vs w9 vy hB K9 vz=>?_) ?_
    ·obtain ⟨⟨a9,b9,vA⟩,vP,vS⟩:=vy
     have q0:w9.cell? ⟨ge,0,none⟩=some (vw (aV u 64)):=vP.cell 0
     have q1:w9.cell? ⟨ge,1,none⟩=some (vw (ba u 64)):=vP.cell 1
     go_simp
     exact vz _ _ rfl ⟨⟨a9,b9,vA⟩,vP,vS⟩ id
    refine aJ (.bool false) (fun vs w9 vy hB K9 vz=>?_) ?_
    ·have yT:=hB 1 _ kZ rfl
     simp only [yT] at vz ⊢
     obtain ⟨⟨a9,b9,vA⟩,vP,vS⟩:=vy
     go_simp
     refine (HG.out _).mono ?_
     rintro e8 w8 ⟨rfl,vB⟩
     exact vz _ _ rfl ⟨⟨a9,b9,vA.below vB vA.lt⟩,vP.below vB vP.lt,vS.trans (vB.mono vS.size)⟩ (fun h=>h.below vB h.lt)
    refine aJ (.bool false) (fun vs w9 vy hB K9 vz=>?_) ?_
    ·have yU:=hB 2 _ kZ rfl
     simp only [yU] at vz ⊢
     obtain ⟨⟨a9,b9,vA⟩,vP,vS⟩:=vy
     go_simp
     exact vz _ _ rfl ⟨⟨a9,b9,vA⟩,vP,vS⟩ id
    refine aJ (undef) (fun vs w9 vy hB K9 vz=>?_) ?_
    ·have wR:=hB 3 _ kZ rfl
     simp only [wR] at vz ⊢
     obtain ⟨⟨a9,b9,vA⟩,vP,vS⟩:=vy
     go_simp
     exact vz _ _ rfl ⟨⟨a9,b9,vA⟩,vP,vS⟩ id
    refine aJ (undef) (fun vs w9 vy hB K9 vz=>?_) ?_
    ·have wR:=hB 3 _ kZ rfl
     simp only [wR] at vz ⊢
     obtain ⟨⟨a9,b9,vA⟩,vP,vS⟩:=vy
     go_simp
     exact vz _ _ rfl ⟨⟨a9,b9,vA⟩,vP,vS⟩ id
    refine aJ (undef) (fun vs w9 vy hB K9 vz=>?_) ?_
    ·have wR:=hB 3 _ kZ rfl
     simp only [wR] at vz ⊢
     obtain ⟨⟨a9,b9,vA⟩,vP,vS⟩:=vy
     go_simp
     exact vz _ _ rfl ⟨⟨a9,b9,vA⟩,vP,vS⟩ id
    refine aJ (undef) (fun vs w9 vy hB K9 vz=>?_) ?_
    ·have wR:=hB 3 _ kZ rfl
     simp only [wR] at vz ⊢
     obtain ⟨⟨a9,b9,vA⟩,vP,vS⟩:=vy
     go_simp
     exact vz _ _ rfl ⟨⟨a9,b9,vA⟩,vP,vS⟩ id
    refine aJ (undef) (fun vs w9 vy hB K9 vz=>?_) ?_
    ·have wR:=hB 3 _ kZ rfl
     simp only [wR] at vz ⊢
     obtain ⟨⟨a9,b9,vA⟩,vP,vS⟩:=vy
     go_simp
     exact vz _ _ rfl ⟨⟨a9,b9,vA⟩,vP,vS⟩ id
    refine aJ (undef) (fun vs w9 vy hB K9 vz=>?_) ?_
    ·have wR:=hB 3 _ kZ rfl
     simp only [wR] at vz ⊢
     obtain ⟨⟨a9,b9,vA⟩,vP,vS⟩:=vy
     go_simp
     exact vz _ _ rfl ⟨⟨a9,b9,vA⟩,vP,vS⟩ id
    refine aJ (.bool false) (fun vs w9 vy hB K9 vz=>?_) ?_
    ·have wR:=hB 3 _ kZ rfl
     simp only [wR] at vz ⊢
     obtain ⟨⟨a9,b9,vA⟩,vP,vS⟩:=vy
     go_simp
     exact vz _ _ rfl ⟨⟨a9,b9,vA⟩,vP,vS⟩ id
    refine jd (fun _ W9=>ah W9 g 62 [vw (aV u 64),vw (ba u 64)]) (fun _ _ _ h hT=>hT h) (fun vs w9 vy hB K9 vz=>?_) ?_
    ·have zh:=hB 0 _ kZ rfl
     simp only [zh] at vz ⊢
     obtain ⟨⟨a9,b9,vA⟩,vP,vS⟩:=vy
     have q0:w9.cell? ⟨g,0,none⟩=some (vw a9):=vA.cell 0
     have q1:w9.cell? ⟨g,1,none⟩=some (vw b9):=vA.cell 1
     obtain ⟨f0,f1⟩:=frz2 vA
     have hS:ah ((w9.setCell ⟨g,0,none⟩ (vw (aV u 64))).setCell ⟨g,1,none⟩ (vw (ba u 64))) g 62 [vw (aV u 64),vw (ba u 64)]:=(vA.set 0 (vw (aV u 64))).set 1 (vw (ba u 64))
     have hN:ah ((w9.setCell ⟨g,0,none⟩ (vw (aV u 64))).setCell ⟨g,1,none⟩ (vw (ba u 64))) ge 62 [vw (aV u 64),vw (ba u 64)]:=(vP.other (p:=⟨g,0,none⟩) (Ne.symm vJ) _).other (p:=⟨g,1,none⟩) (Ne.symm vJ) _
     have hW:=(vS.setCell (p:=⟨g,0,none⟩) Az (vw (aV u 64))).setCell (p:=⟨g,1,none⟩) Az (vw (ba u 64))
     go_simp
     exact vz _ undef _ rfl hS ⟨⟨_,_,hS⟩,hN,hW⟩ (fun _=>hS)
    refine aJ (.bool false) (fun vs w9 vy hB K9 vz=>?_) ?_
    ·have hd10:=hB 10 _ kZ rfl
     simp only [hd10] at vz ⊢
     obtain ⟨⟨a9,b9,vA⟩,vP,vS⟩:=vy
     go_simp
     exact vz _ _ rfl ⟨⟨a9,b9,vA⟩,vP,vS⟩ id
    refine jz fun vs W9 vy hB=>?_
    have hv12:=hB 12 _ rfl
    have hS:=hB 11 _ rfl
    obtain ⟨_,_,vS⟩:=vy
    simp only [hv12]
    obtain ⟨c0,c1⟩:=cells2 hS
    clear hS hB hv12
    go_wp2_with fail
    refine bodyPost_ret (v:=.tuple #[.agg #[vw (aV u 64),vw (ba u 64)],.bool false]) (by simp [results,Tryz.results128,go_sem, *]) rfl ⟨aV u 64,ba u 64,false,rfl,.inr ⟨rfl,HD.out⟩,vS⟩
   ·rw [vF] at HG
    by_cases yv:bO k (bl (aV u 64)) (bl (ba u 64))=bl s++[10]
    ·have HD:Hid (dU k (bl s)=some (bl (aV u 64),bl (ba u 64))):=by rw [Hid,wO,if_pos ⟨vF,yv⟩]
     have Hy:Hid ((ln.toList == (s++⟨#[10]⟩ : ByteArray).toList)=true):=by rw [Hid,lm]; exact jD (by rw [BE,yv,dk]; rfl)
     clear yP hsplit Bb xT wO vF yv zA BE
     go_enter Tryz.func128,Tryz.ntmps128
     go_wp2_with fail
     generalize w.alloc (.cells #[vw ⟨#[]⟩,vw ⟨#[]⟩] 62)=W at b1 L1 ⊢
     generalize hg:w.heap.size=g at L1 ⊢
     refine (HN.out _).mono ?_
     rintro e w2 ⟨rfl,vC⟩
     go_wp2_with fail
     refine (BC.out _).mono ?_
     rintro e w3 ⟨A3,c3,rfl,wa,vQ⟩
     obtain ⟨g3,rfl,x0,hg3,hg3'⟩:=wG.out _ _ _ _ wa
     have xg:=av vC vQ
     have L3:=L1.below xg L1.lt
     clear wa
     go_wp2_with fail
     rw [← HU.out]
     refine (Fj.out _).mono ?_
     rintro e w4 ⟨A4,c4,rfl,vZ,vN⟩
     obtain ⟨g4,rfl,x1,wu,hg4'⟩:=xV.out _ _ _ _ vZ
     have hb14:=av xg vN
     have L4:=L3.below vN L3.lt
     clear vZ
     have Jc:((aV u 64).size:Int)+1≤(u.size:Int):=oM
     go_wp2_with fail
     rw [HR.out]
     have N5:=ah.new w4 62 #[vw (aV u 64),vw (ba u 64)]
     have L5:=L4.alloc (.cells #[vw (aV u 64),vw (ba u 64)] 62)
     have hb5:=(av b1 hb14).trans ((Below.refl w.heap.size w4).alloc (by have:=(av b1 hb14).size; omega) (.cells #[vw (aV u 64),vw (ba u 64)] 62))
     generalize w4.alloc (.cells #[vw (aV u 64),vw (ba u 64)] 62)=W5 at N5 L5 hb5 ⊢
     have vJ:g ≠ w4.heap.size:=by have:=L4.lt; omega
     generalize w4.heap.size=ge at N5 vJ ⊢
     have Az:w.heap.size≤g:=oM
     clear L1 L3 L4 x0 x1
     refine gF (fun W9=>(∃ a b,ah W9 g 62 [vw a,vw b])∧ah W9 ge 62 [vw (aV u 64),vw (ba u 64)]∧Below w.heap.size w W9) (fun W8 W9=>ah W8 g 62 [vw (aV u 64),vw (ba u 64)]→ah W9 g 62 [vw (aV u 64),vw (ba u 64)]) kZ kZ kZ ⟨⟨_,_,L5.below jB.drew L5.lt⟩,N5.below jB.drew N5.lt,hb5.drew⟩ ?_
     simp only [aw,Act.put,sA,gs0,gs1,Nat.zero_add,Nat.reduceAdd]
     refine aJ (.agg #[vw (aV u 64),vw (ba u 64)]) (fun vs w9 vy hB K9 vz=>?_) ?_
     ·obtain ⟨⟨a9,b9,vA⟩,vP,vS⟩:=vy
      have q0:w9.cell? ⟨ge,0,none⟩=some (vw (aV u 64)):=vP.cell 0
      have q1:w9.cell? ⟨ge,1,none⟩=some (vw (ba u 64)):=vP.cell 1
      go_simp
      exact vz _ _ rfl ⟨⟨a9,b9,vA⟩,vP,vS⟩ id
     refine aJ (.agg #[vw (aV u 64),vw (ba u 64)]) (fun vs w9 vy hB K9 vz=>?_) ?_
     ·obtain ⟨⟨a9,b9,vA⟩,vP,vS⟩:=vy
      have q0:w9.cell? ⟨ge,0,none⟩=some (vw (aV u 64)):=vP.cell 0
      have q1:w9.cell? ⟨ge,1,none⟩=some (vw (ba u 64)):=vP.cell 1
      go_simp
      exact vz _ _ rfl ⟨⟨a9,b9,vA⟩,vP,vS⟩ id
     refine aJ (.bool true) (fun vs w9 vy hB K9 vz=>?_) ?_
     ·have yT:=hB 1 _ kZ rfl
      simp only [yT] at vz ⊢
      obtain ⟨⟨a9,b9,vA⟩,vP,vS⟩:=vy
      go_simp
      refine (HG.out _).mono ?_
      rintro e8 w8 ⟨rfl,vB⟩
      exact vz _ _ rfl ⟨⟨a9,b9,vA.below vB vA.lt⟩,vP.below vB vP.lt,vS.trans (vB.mono vS.size)⟩ (fun h=>h.below vB h.lt)
     refine aJ (.bool true) (fun vs w9 vy hB K9 vz=>?_) ?_
     ·have yU:=hB 2 _ kZ rfl
      simp only [yU] at vz ⊢
      obtain ⟨⟨a9,b9,vA⟩,vP,vS⟩:=vy
      go_simp
      exact vz _ _ rfl ⟨⟨a9,b9,vA⟩,vP,vS⟩ id
     refine aJ (O U (k:Int)) (fun vs w9 vy hB K9 vz=>?_) ?_
     ·have wR:=hB 3 _ kZ rfl
      simp only [wR] at vz ⊢
      obtain ⟨⟨a9,b9,vA⟩,vP,vS⟩:=vy
      go_simp
      exact vz _ _ rfl ⟨⟨a9,b9,vA⟩,vP,vS⟩ id
     refine aJ (.agg #[vw (aV u 64),vw (ba u 64)]) (fun vs w9 vy hB K9 vz=>?_) ?_
     ·have wR:=hB 3 _ kZ rfl
      simp only [wR] at vz ⊢
      obtain ⟨⟨a9,b9,vA⟩,vP,vS⟩:=vy
      have q0:w9.cell? ⟨ge,0,none⟩=some (vw (aV u 64)):=vP.cell 0
      have q1:w9.cell? ⟨ge,1,none⟩=some (vw (ba u 64)):=vP.cell 1
      go_simp
      exact vz _ _ rfl ⟨⟨a9,b9,vA⟩,vP,vS⟩ id
     refine aJ (vw ln) (fun vs w9 vy hB K9 vz=>?_) ?_
     ·have wR:=hB 3 _ kZ rfl
      have Ds:=hB 4 _ kZ rfl
      have Dt:=hB 5 _ kZ rfl
      simp only [wR,Ds,Dt] at vz ⊢
      obtain ⟨⟨a9,b9,vA⟩,vP,vS⟩:=vy
      go_simp
      refine (zK.out _).mono ?_
      rintro e8 w8 ⟨rfl,vB⟩
      exact vz _ _ rfl ⟨⟨a9,b9,vA.below vB vA.lt⟩,vP.below vB vP.lt,vS.trans (vB.mono vS.size)⟩ (fun h=>h.below vB h.lt)
     refine aJ (vw s) (fun vs w9 vy hB K9 vz=>?_) ?_
     ·have wR:=hB 3 _ kZ rfl
      simp only [wR] at vz ⊢
      obtain ⟨⟨a9,b9,vA⟩,vP,vS⟩:=vy
      go_simp
      exact vz _ _ rfl ⟨⟨a9,b9,vA⟩,vP,vS⟩ id
     refine aJ (vw (s++⟨#[10]⟩)) (fun vs w9 vy hB K9 vz=>?_) ?_
     ·have wR:=hB 3 _ kZ rfl
      have Du:=hB 7 _ kZ rfl
      simp only [wR,Du] at vz ⊢
      obtain ⟨⟨a9,b9,vA⟩,vP,vS⟩:=vy
      go_simp
      (first | (rw [if_neg oM]; go_simp) | skip)
      exact vz _ _ rfl ⟨⟨a9,b9,vA⟩,vP,vS⟩ id
     refine aJ (.bool true) (fun vs w9 vy hB K9 vz=>?_) ?_
     ·have wR:=hB 3 _ kZ rfl
      have Dv:=hB 6 _ kZ rfl
      have Hz:=hB 8 _ kZ rfl
      simp only [wR,Dv,Hz] at vz ⊢
      obtain ⟨⟨a9,b9,vA⟩,vP,vS⟩:=vy
      have hq:=Hy.out
      go_simp
      exact vz _ _ rfl ⟨⟨a9,b9,vA⟩,vP,vS⟩ id
     refine aJ (.bool true) (fun vs w9 vy hB K9 vz=>?_) ?_
     ·have wR:=hB 3 _ kZ rfl
      have Ia:=hB 9 _ kZ rfl
      simp only [wR,Ia] at vz ⊢
      obtain ⟨⟨a9,b9,vA⟩,vP,vS⟩:=vy
      go_simp
      exact vz _ _ rfl ⟨⟨a9,b9,vA⟩,vP,vS⟩ id
     refine jd (fun _ W9=>ah W9 g 62 [vw (aV u 64),vw (ba u 64)]) (fun _ _ _ h hT=>hT h) (fun vs w9 vy hB K9 vz=>?_) ?_
     ·have zh:=hB 0 _ kZ rfl
      simp only [zh] at vz ⊢
      obtain ⟨⟨a9,b9,vA⟩,vP,vS⟩:=vy
      have q0:w9.cell? ⟨g,0,none⟩=some (vw a9):=vA.cell 0
      have q1:w9.cell? ⟨g,1,none⟩=some (vw b9):=vA.cell 1
      obtain ⟨f0,f1⟩:=frz2 vA
      have hS:ah ((w9.setCell ⟨g,0,none⟩ (vw (aV u 64))).setCell ⟨g,1,none⟩ (vw (ba u 64))) g 62 [vw (aV u 64),vw (ba u 64)]:=(vA.set 0 (vw (aV u 64))).set 1 (vw (ba u 64))
      have hN:ah ((w9.setCell ⟨g,0,none⟩ (vw (aV u 64))).setCell ⟨g,1,none⟩ (vw (ba u 64))) ge 62 [vw (aV u 64),vw (ba u 64)]:=(vP.other (p:=⟨g,0,none⟩) (Ne.symm vJ) _).other (p:=⟨g,1,none⟩) (Ne.symm vJ) _
      have hW:=(vS.setCell (p:=⟨g,0,none⟩) Az (vw (aV u 64))).setCell (p:=⟨g,1,none⟩) Az (vw (ba u 64))
      go_simp
      exact vz _ undef _ rfl hS ⟨⟨_,_,hS⟩,hN,hW⟩ (fun _=>hS)
     refine aJ (.bool true) (fun vs w9 vy hB K9 vz=>?_) ?_
     ·have hd10:=hB 10 _ kZ rfl
      simp only [hd10] at vz ⊢
      obtain ⟨⟨a9,b9,vA⟩,vP,vS⟩:=vy
      go_simp
      exact vz _ _ rfl ⟨⟨a9,b9,vA⟩,vP,vS⟩ id
     refine jz fun vs W9 vy hB=>?_
     have hv12:=hB 12 _ rfl
     have hS:=hB 11 _ rfl
     obtain ⟨_,_,vS⟩:=vy
     simp only [hv12]
     obtain ⟨c0,c1⟩:=cells2 hS
     clear hS hB hv12
     go_wp2_with fail
     refine bodyPost_ret (v:=.tuple #[.agg #[vw (aV u 64),vw (ba u 64)],.bool true]) (by simp [results,Tryz.results128,go_sem, *]) rfl ⟨aV u 64,ba u 64,true,rfl,.inl ⟨rfl,HD.out⟩,vS⟩
    ·have HD:Hid (dU k (bl s)=none):=by rw [Hid,wO,if_neg (fun h=>yv h.2)]
     have Hy:Hid ((ln.toList == (s++⟨#[10]⟩ : ByteArray).toList)=false):=by rw [Hid,lm]; exact jE (fun h=>yv (by rw [← BE,h,dk]; rfl))
     clear yP hsplit Bb xT wO vF yv zA BE
     go_enter Tryz.func128,Tryz.ntmps128
     go_wp2_with fail
     generalize w.alloc (.cells #[vw ⟨#[]⟩,vw ⟨#[]⟩] 62)=W at b1 L1 ⊢
     generalize hg:w.heap.size=g at L1 ⊢
     refine (HN.out _).mono ?_
     rintro e w2 ⟨rfl,vC⟩
     go_wp2_with fail
     refine (BC.out _).mono ?_
     rintro e w3 ⟨A3,c3,rfl,wa,vQ⟩
     obtain ⟨g3,rfl,x0,hg3,hg3'⟩:=wG.out _ _ _ _ wa
     have xg:=av vC vQ
     have L3:=L1.below xg L1.lt
     clear wa
     go_wp2_with fail
     rw [← HU.out]
     refine (Fj.out _).mono ?_
     rintro e w4 ⟨A4,c4,rfl,vZ,vN⟩
     obtain ⟨g4,rfl,x1,wu,hg4'⟩:=xV.out _ _ _ _ vZ
     have hb14:=av xg vN
     have L4:=L3.below vN L3.lt
     clear vZ
     have Jc:((aV u 64).size:Int)+1≤(u.size:Int):=oM
     go_wp2_with fail
     rw [HR.out]
     have N5:=ah.new w4 62 #[vw (aV u 64),vw (ba u 64)]
     have L5:=L4.alloc (.cells #[vw (aV u 64),vw (ba u 64)] 62)
     have hb5:=(av b1 hb14).trans ((Below.refl w.heap.size w4).alloc (by have:=(av b1 hb14).size; omega) (.cells #[vw (aV u 64),vw (ba u 64)] 62))
     generalize w4.alloc (.cells #[vw (aV u 64),vw (ba u 64)] 62)=W5 at N5 L5 hb5 ⊢
     have vJ:g ≠ w4.heap.size:=by have:=L4.lt; omega
     generalize w4.heap.size=ge at N5 vJ ⊢
     have Az:w.heap.size≤g:=oM
     clear L1 L3 L4 x0 x1
     refine gF (fun W9=>(∃ a b,ah W9 g 62 [vw a,vw b])∧ah W9 ge 62 [vw (aV u 64),vw (ba u 64)]∧Below w.heap.size w W9) (fun W8 W9=>ah W8 g 62 [vw (aV u 64),vw (ba u 64)]→ah W9 g 62 [vw (aV u 64),vw (ba u 64)]) kZ kZ kZ ⟨⟨_,_,L5.below jB.drew L5.lt⟩,N5.below jB.drew N5.lt,hb5.drew⟩ ?_
     simp only [aw,Act.put,sA,gs0,gs1,Nat.zero_add,Nat.reduceAdd]
     refine aJ (.agg #[vw (aV u 64),vw (ba u 64)]) (fun vs w9 vy hB K9 vz=>?_) ?_
     ·obtain ⟨⟨a9,b9,vA⟩,vP,vS⟩:=vy
      have q0:w9.cell? ⟨ge,0,none⟩=some (vw (aV u 64)):=vP.cell 0
      have q1:w9.cell? ⟨ge,1,none⟩=some (vw (ba u 64)):=vP.cell 1
      go_simp
      exact vz _ _ rfl ⟨⟨a9,b9,vA⟩,vP,vS⟩ id
     refine aJ (.agg #[vw (aV u 64),vw (ba u 64)]) (fun vs w9 vy hB K9 vz=>?_) ?_
     ·obtain ⟨⟨a9,b9,vA⟩,vP,vS⟩:=vy
      have q0:w9.cell? ⟨ge,0,none⟩=some (vw (aV u 64)):=vP.cell 0
      have q1:w9.cell? ⟨ge,1,none⟩=some (vw (ba u 64)):=vP.cell 1
      go_simp
      exact vz _ _ rfl ⟨⟨a9,b9,vA⟩,vP,vS⟩ id
     refine aJ (.bool true) (fun vs w9 vy hB K9 vz=>?_) ?_
     ·have yT:=hB 1 _ kZ rfl
      simp only [yT] at vz ⊢
      obtain ⟨⟨a9,b9,vA⟩,vP,vS⟩:=vy
      go_simp
      refine (HG.out _).mono ?_
      rintro e8 w8 ⟨rfl,vB⟩
      exact vz _ _ rfl ⟨⟨a9,b9,vA.below vB vA.lt⟩,vP.below vB vP.lt,vS.trans (vB.mono vS.size)⟩ (fun h=>h.below vB h.lt)
     refine aJ (.bool true) (fun vs w9 vy hB K9 vz=>?_) ?_
     ·have yU:=hB 2 _ kZ rfl
      simp only [yU] at vz ⊢
      obtain ⟨⟨a9,b9,vA⟩,vP,vS⟩:=vy
      go_simp
      exact vz _ _ rfl ⟨⟨a9,b9,vA⟩,vP,vS⟩ id
     refine aJ (O U (k:Int)) (fun vs w9 vy hB K9 vz=>?_) ?_
     ·have wR:=hB 3 _ kZ rfl
      simp only [wR] at vz ⊢
      obtain ⟨⟨a9,b9,vA⟩,vP,vS⟩:=vy
      go_simp
      exact vz _ _ rfl ⟨⟨a9,b9,vA⟩,vP,vS⟩ id
     refine aJ (.agg #[vw (aV u 64),vw (ba u 64)]) (fun vs w9 vy hB K9 vz=>?_) ?_
     ·have wR:=hB 3 _ kZ rfl
      simp only [wR] at vz ⊢
      obtain ⟨⟨a9,b9,vA⟩,vP,vS⟩:=vy
      have q0:w9.cell? ⟨ge,0,none⟩=some (vw (aV u 64)):=vP.cell 0
      have q1:w9.cell? ⟨ge,1,none⟩=some (vw (ba u 64)):=vP.cell 1
      go_simp
      exact vz _ _ rfl ⟨⟨a9,b9,vA⟩,vP,vS⟩ id
     refine aJ (vw ln) (fun vs w9 vy hB K9 vz=>?_) ?_
     ·have wR:=hB 3 _ kZ rfl
      have Ds:=hB 4 _ kZ rfl
      have Dt:=hB 5 _ kZ rfl
      simp only [wR,Ds,Dt] at vz ⊢
      obtain ⟨⟨a9,b9,vA⟩,vP,vS⟩:=vy
      go_simp
      refine (zK.out _).mono ?_
      rintro e8 w8 ⟨rfl,vB⟩
      exact vz _ _ rfl ⟨⟨a9,b9,vA.below vB vA.lt⟩,vP.below vB vP.lt,vS.trans (vB.mono vS.size)⟩ (fun h=>h.below vB h.lt)
     refine aJ (vw s) (fun vs w9 vy hB K9 vz=>?_) ?_
     ·have wR:=hB 3 _ kZ rfl
      simp only [wR] at vz ⊢
      obtain ⟨⟨a9,b9,vA⟩,vP,vS⟩:=vy
      go_simp
      exact vz _ _ rfl ⟨⟨a9,b9,vA⟩,vP,vS⟩ id
     refine aJ (vw (s++⟨#[10]⟩)) (fun vs w9 vy hB K9 vz=>?_) ?_
     ·have wR:=hB 3 _ kZ rfl
      have Du:=hB 7 _ kZ rfl
      simp only [wR,Du] at vz ⊢
      obtain ⟨⟨a9,b9,vA⟩,vP,vS⟩:=vy
      go_simp
      (first | (rw [if_neg oM]; go_simp) | skip)
      exact vz _ _ rfl ⟨⟨a9,b9,vA⟩,vP,vS⟩ id
     refine aJ (.bool false) (fun vs w9 vy hB K9 vz=>?_) ?_
     ·have wR:=hB 3 _ kZ rfl
      have Dv:=hB 6 _ kZ rfl
      have Hz:=hB 8 _ kZ rfl
      simp only [wR,Dv,Hz] at vz ⊢
      obtain ⟨⟨a9,b9,vA⟩,vP,vS⟩:=vy
      have hq:=Hy.out
      go_simp
      exact vz _ _ rfl ⟨⟨a9,b9,vA⟩,vP,vS⟩ id
     refine aJ (.bool false) (fun vs w9 vy hB K9 vz=>?_) ?_
     ·have wR:=hB 3 _ kZ rfl
      have Ia:=hB 9 _ kZ rfl
      simp only [wR,Ia] at vz ⊢
      obtain ⟨⟨a9,b9,vA⟩,vP,vS⟩:=vy
      go_simp
      exact vz _ _ rfl ⟨⟨a9,b9,vA⟩,vP,vS⟩ id
     refine jd (fun _ W9=>ah W9 g 62 [vw (aV u 64),vw (ba u 64)]) (fun _ _ _ h hT=>hT h) (fun vs w9 vy hB K9 vz=>?_) ?_
     ·have zh:=hB 0 _ kZ rfl
      simp only [zh] at vz ⊢
      obtain ⟨⟨a9,b9,vA⟩,vP,vS⟩:=vy
      have q0:w9.cell? ⟨g,0,none⟩=some (vw a9):=vA.cell 0
      have q1:w9.cell? ⟨g,1,none⟩=some (vw b9):=vA.cell 1
      obtain ⟨f0,f1⟩:=frz2 vA
      have hS:ah ((w9.setCell ⟨g,0,none⟩ (vw (aV u 64))).setCell ⟨g,1,none⟩ (vw (ba u 64))) g 62 [vw (aV u 64),vw (ba u 64)]:=(vA.set 0 (vw (aV u 64))).set 1 (vw (ba u 64))
      have hN:ah ((w9.setCell ⟨g,0,none⟩ (vw (aV u 64))).setCell ⟨g,1,none⟩ (vw (ba u 64))) ge 62 [vw (aV u 64),vw (ba u 64)]:=(vP.other (p:=⟨g,0,none⟩) (Ne.symm vJ) _).other (p:=⟨g,1,none⟩) (Ne.symm vJ) _
      have hW:=(vS.setCell (p:=⟨g,0,none⟩) Az (vw (aV u 64))).setCell (p:=⟨g,1,none⟩) Az (vw (ba u 64))
      go_simp
      exact vz _ undef _ rfl hS ⟨⟨_,_,hS⟩,hN,hW⟩ (fun _=>hS)
     refine aJ (.bool false) (fun vs w9 vy hB K9 vz=>?_) ?_
     ·have hd10:=hB 10 _ kZ rfl
      simp only [hd10] at vz ⊢
      obtain ⟨⟨a9,b9,vA⟩,vP,vS⟩:=vy
      go_simp
      exact vz _ _ rfl ⟨⟨a9,b9,vA⟩,vP,vS⟩ id
     refine jz fun vs W9 vy hB=>?_
     have hv12:=hB 12 _ rfl
     have hS:=hB 11 _ rfl
     obtain ⟨_,_,vS⟩:=vy
     simp only [hv12]
     obtain ⟨c0,c1⟩:=cells2 hS
     clear hS hB hv12
     go_wp2_with fail
     refine bodyPost_ret (v:=.tuple #[.agg #[vw (aV u 64),vw (ba u 64)],.bool false]) (by simp [results,Tryz.results128,go_sem, *]) rfl ⟨aV u 64,ba u 64,false,rfl,.inr ⟨rfl,HD.out⟩,vS⟩
  ·have HD:Hid (dU k (bl s)=none):=qm (by rw [← xT]; exact hsplit) hat
   have Jd:(aV u 64).size=u.size:=by unfold aV; rw [← ao,bL,← ao]; exact sL.2 hat
   have d3:(((aV u 64).size:Int) == (u.size:Int))=true:=by rw [Jd]; simp
   clear yP hsplit Bb hat xT Jd
   go_enter Tryz.func128,Tryz.ntmps128
   go_wp2_with fail
   generalize w.alloc (.cells #[vw ⟨#[]⟩,vw ⟨#[]⟩] 62)=W at b1 L1 ⊢
   generalize hg:w.heap.size=g at L1 ⊢
   refine (HN.out _).mono ?_
   rintro e w2 ⟨rfl,vC⟩
   go_wp2_with fail
   refine (BC.out _).mono ?_
   rintro e w3 ⟨A3,c3,rfl,wa,vQ⟩
   obtain ⟨g3,rfl,x0,hg3,hg3'⟩:=wG.out _ _ _ _ wa
   have xg:=av vC vQ
   have L3:=L1.below xg L1.lt
   clear wa
   go_wp2_with fail
   rw [← HU.out]
   refine (Fj.out _).mono ?_
   rintro e w4 ⟨A4,c4,rfl,vZ,vN⟩
   obtain ⟨g4,rfl,x1,wu,hg4'⟩:=xV.out _ _ _ _ vZ
   have hb14:=av xg vN
   have L4:=L3.below vN L3.lt
   clear vZ
   have c0:=L4.cell 0
   have c1:=L4.cell 1
   obtain ⟨f0,f1⟩:=frz2 L4
   have Cb:=L4.lt
   simp only [gz0,gz1] at c0 c1
   clear L1 L4
   go_wp2_with fail
   refine bodyPost_ret (v:=.tuple #[.agg #[vw ⟨#[]⟩,vw ⟨#[]⟩],.bool false]) (by simp [results,Tryz.results128,go_sem, *]) rfl ⟨⟨#[]⟩,⟨#[]⟩,false,rfl,.inr ⟨rfl,HD.out⟩, ?_⟩
   rw [← hg] at *
   exact (av b1 hb14).trans (by repeat (first | exact Below.refl _ _ | refine Below.alloc ?_ (by simp; have:=b1.size; have:=hb14.size; omega) _ | refine Below.setCell ?_ sP _))
 ·have HD:Hid (dU k (bl s)=none):=pi (by rw [← xT]; exact yP)
  by_cases wH:x.size < p.size
  ·have d1:decide ((x.size:Int) < (t.size:Int)+1)=true:=jD oM
   clear yP xT hp wH
   go_enter Tryz.func128,Tryz.ntmps128
   go_wp2_with fail
   generalize w.alloc (.cells #[vw ⟨#[]⟩,vw ⟨#[]⟩] 62)=W at b1 L1 ⊢
   generalize hg:w.heap.size=g at L1 ⊢
   refine (HN.out _).mono ?_
   rintro e w2 ⟨rfl,vC⟩
   go_wp2_with fail
   refine (BC.out _).mono ?_
   rintro e w3 ⟨A3,c3,rfl,wa,vQ⟩
   obtain ⟨g3,rfl,x0,hg3,hg3'⟩:=wG.out _ _ _ _ wa
   have xg:=av vC vQ
   have L3:=L1.below xg L1.lt
   clear wa
   have c0:=L3.cell 0
   have c1:=L3.cell 1
   obtain ⟨f0,f1⟩:=frz2 L3
   have Cb:=L3.lt
   simp only [gz0,gz1] at c0 c1
   clear L1 L3
   go_wp2_with fail
   refine bodyPost_ret (v:=.tuple #[.agg #[vw ⟨#[]⟩,vw ⟨#[]⟩],.bool false]) (by simp [results,Tryz.results128,go_sem, *]) rfl ⟨⟨#[]⟩,⟨#[]⟩,false,rfl,.inr ⟨rfl,HD.out⟩, ?_⟩
   rw [← hg] at *
   exact (av b1 xg).trans (by repeat (first | exact Below.refl _ _ | refine Below.alloc ?_ (by simp; have:=b1.size; have:=xg.size; omega) _ | refine Below.setCell ?_ sP _))
  ·have d1:decide ((x.size:Int) < (t.size:Int)+1)=false:=jE oM
   have d2:((x.extract 0 (t.size+1)).toList == (t++⟨#[32]⟩).toList)=false:=by
    rw [lm]; refine jE fun e=>yP ?_
    rw [Ac.out,bE,List.drop_zero] at e
    rw [← e]; exact List.take_prefix _ _
   have i1:(t.size:Int)+1≤(x.size:Int):=oM
   clear yP xT hp wH
   go_enter Tryz.func128,Tryz.ntmps128
   go_wp2_with fail
   generalize w.alloc (.cells #[vw ⟨#[]⟩,vw ⟨#[]⟩] 62)=W at b1 L1 ⊢
   generalize hg:w.heap.size=g at L1 ⊢
   refine (HN.out _).mono ?_
   rintro e w2 ⟨rfl,vC⟩
   go_wp2_with fail
   refine (BC.out _).mono ?_
   rintro e w3 ⟨A3,c3,rfl,wa,vQ⟩
   obtain ⟨g3,rfl,x0,hg3,hg3'⟩:=wG.out _ _ _ _ wa
   have xg:=av vC vQ
   have L3:=L1.below xg L1.lt
   clear wa
   have c0:=L3.cell 0
   have c1:=L3.cell 1
   obtain ⟨f0,f1⟩:=frz2 L3
   have Cb:=L3.lt
   simp only [gz0,gz1] at c0 c1
   clear L1 L3
   go_wp2_with fail
   refine bodyPost_ret (v:=.tuple #[.agg #[vw ⟨#[]⟩,vw ⟨#[]⟩],.bool false]) (by simp [results,Tryz.results128,go_sem, *]) rfl ⟨⟨#[]⟩,⟨#[]⟩,false,rfl,.inr ⟨rfl,HD.out⟩, ?_⟩
   rw [← hg] at *
   exact (av b1 xg).trans (by repeat (first | exact Below.refl _ _ | refine Below.alloc ?_ (by simp; have:=b1.size; have:=xg.size; omega) _ | refine Below.setCell ?_ sP _))
def gV (s:ByteArray) (w:World) (e:Ending) (w' : World):Prop:=∃ A c m,e=.returned (.tuple #[.slice A m.length c,.int .i64 (ci (aF 60 0 (bl s)):Nat)])∧dP (aF 60 0 (bl s)) m ∧
 w'.ownsRow w.heap.size 62 2 (.slice A m.length c) m.length (m.flatMap dq.enc)∧Below w.heap.size w w'
theorem sS (x:ByteArray) (b:UInt8) (n:Nat) (hn:n=(aK b (bl x)).length):Hid (∀ (W:World) (B:Nat) (A:Option Addr) (c:Nat),W.ownsRow B 9 1 (.slice A n c) n (eD (aK b (bl x)))→∃ g,A=some ⟨g,0,none⟩∧W.cell? ⟨g,0,none⟩=some (.string (aV x b))∧B≤g∧g < W.heap.size):=fun W B A c h=>by
 subst hn; exact jO h
set_option maxRecDepth 100000 in
theorem jP (s:ByteArray) (w:World) (hs:s.size≤1000000) :
  Calls vx 77 #[.string s] w (gV s w):=by
 have b0:=bZ w (.cells #[] 62)
 have O0:Hid ((w.alloc (.cells #[] 62)).ownsRow w.heap.size 62 2 (.slice (some ⟨w.heap.size,0,none⟩) 0 0) 0 (([] : List dq).flatMap dq.enc)):=dO (ah.new w 62 #[]) nR
 go_enter Tryz.func77,Tryz.ntmps77
 go_wp2
 have HZ:Hid (aF 60 0 (bl s) = []++aF (60 - 0) 0 ((bl s).drop 0)):=rfl
 go_loopw [4,5,6,7,8] (fun r at' _ _ _ wr=>∃ (a:Nat) (A:Option Addr) (c:Nat) (m:List dq) (acc:List ((List UInt8 × List UInt8) × Nat)),m.length≤60∧a≤s.size∧r=.slice A m.length c∧at'=.int .i64 a∧(∃ q:ap w.heap.size w,wr=q.val) ∧
  Hid (dP acc m)∧Hid (ci acc=a)∧Hid (aF 60 0 (bl s)=acc++aF (60 - m.length) m.length ((bl s).drop a))∧Hid (wr.ownsRow w.heap.size 62 2 (.slice A m.length c) m.length (m.flatMap dq.enc))) (fun r _ _ _ _ _=>60 - lenOf r)
 case atStart=>exact ⟨0,some ⟨w.heap.size,0,none⟩,0,[],[],sP,Nat.zero_le _,rfl,rfl,⟨⟨_,b0⟩,rfl⟩,rfl,rfl,HZ,O0⟩
 case round =>
  obtain ⟨a,A,c,m,acc,hm,ha,rfl,rfl,⟨q,rfl⟩,HA,HL,HF,HR⟩:=hrel
  have DONE:aF (60 - m.length) m.length ((bl s).drop a) = []→∀ W',Below q.val.heap.size q.val W'→gV s w (.returned (.tuple #[.slice A m.length c,.int .i64 (a:Nat)])) W':=fun h W' hb=>by
   have h1:=HF.out
   rw [h,List.append_nil] at h1
   exact ⟨A,c,m,by rw [h1,HL.out],by rw [h1]; exact HA.out,ac HR.out hb,(q.go nR hb).below⟩
  by_cases vH:a < s.size
  ·by_cases hm60:m.length < 60
   ·obtain ⟨n,hn⟩ : ∃ n,60 - m.length=n+1:=⟨59 - m.length,oM⟩
    obtain ⟨x,hx⟩ : ∃ x:ByteArray,x=s.extract a s.size:=⟨_,rfl⟩
    have xT:bl x=(bl s).drop a:=by rw [hx,bE,List.take_of_length_le (by rw [ao]; exact Nat.le_refl _)]
    have Ar:x.size≤1000000:=by rw [← ao,xT,List.length_drop,ao]; omega
    have BC:Hid (∀ W,Calls vx 58 #[.string (s.extract a s.size),.int .u8 10] W fun e w'=>∃ A c,e=.returned (.slice A (aK 10 (bl x)).length c)∧w'.ownsRow W.heap.size 9 1 (.slice A (aK 10 (bl x)).length c) (aK 10 (bl x)).length (eD (aK 10 (bl x)))∧Below W.heap.size W w'):=fun W=>by
     rw [← hx]; exact iC x 10 W oM
    have Gp:(aV x 10).size≤1000000:=by unfold aV; rw [← ao,bL]; have:=li 10 (bl x); rw [ao] at this; omega
    have Em:bl (aV x 10)=cw 10 (bl x):=by unfold aV; rw [bL]
    have Fo:(aV x 10).size=(cw 10 (bl x)).length:=by rw [← ao,Em]
    obtain ⟨ps,AJ,BH⟩:=gp 10 (bl x)
    have vG:(aK 10 (bl x)).length=ps.length+1:=by rw [AJ]; rfl
    have Kw:(aK 10 (bl x)).length≤1000001:=by have:=gn 10 (bl x) []; rw [ao] at this; unfold aK; omega
    obtain ⟨n0,xH⟩ : ∃ n,n=(aK 10 (bl x)).length:=⟨_,rfl⟩
    have wG:=sS x 10 n0 xH
    rw [← xH] at BC vG Kw
    have Fk:=jZ (fun W=>qu m.length (aV x 10) W oM Gp)
    rw [hn] at DONE HF
    rw [← xT] at DONE HF
    have i1:(a:Int)≤(s.size:Int):=oM
    by_cases h1:(10:UInt8) ∈ bl x
    ·have Cc:2≤n0:=by
      rcases ps with _ | ⟨p,ps⟩
      ·exact absurd h1 (BH.1 rfl)
      ·simp at vG; omega
     have hp:=congrArg List.length (cP h1)
     have yt:(bl x).length=s.size - a:=by rw [xT,List.length_drop,ao]
     simp only [List.length_append,List.length_cons,List.length_drop,yt,← Fo] at hp
     have Je:a+(aV x 10).size+1≤s.size:=oM
     obtain ⟨y,hy⟩ : ∃ y:ByteArray,y=aV x 10:=⟨_,rfl⟩
     rw [← hy] at Em Fo Gp Fk wG Je
     have Dw:Hid (dU m.length (bl y)=none→∀ W',Below q.val.heap.size q.val W'→gV s w (.returned (.tuple #[.slice A m.length c,.int .i64 (a:Nat)])) W'):=fun h=>DONE (dz (by rw [← Em]; exact h))
     have BF:Hid (∀ ra rb,dU m.length (bl y)=some (ra,rb)→aF 60 0 (bl s)=(acc++[((ra,rb),y.size+1)])++aF (60 - (m.length+1)) (m.length+1) ((bl s).drop (a+(y.size+1)))):=fun ra rb h=>by
      have e1:=cj (n:=n) h1 (by rw [← Em]; exact h)
      have e2:60 - (m.length+1)=n:=oM
      rw [HF.out,e1,e2,← Fo,xT,List.drop_drop]
      simp
     have i3:(a:Int)+(y.size:Int)+1≤(s.size:Int):=oM
     clear DONE h1 hx xT hn hp yt Em Fo hy AJ BH vG xH
     go_wp2_with fail
     refine (BC.out _).mono ?_
     rintro e w3 ⟨A3,c3,rfl,wa,vQ⟩
     obtain ⟨g3,rfl,x0,hg3,hg3'⟩:=wG.out _ _ _ _ wa
     go_wp2_with fail
     refine (Fk.out _).mono ?_
     rintro e w4 ⟨ra,rb,ok,rfl,wO,vN⟩
     obtain ⟨_,wW,x4,_,_⟩:=wG.out _ _ _ _ (ac wa (vN.alloc vN.size (.cells #[.string ra,.string rb] 62)))
     injection wW with wW; injection wW with wW _; subst wW
     clear x0
     have AK:=av vQ (vN.alloc vN.size (.cells #[.string ra,.string rb] 62))
     cases ok
     ·have HD:=jZ (Dw.out (by rcases wO with ⟨h,_⟩ | ⟨_,h⟩; cases h; exact h) _ AK)
      clear wO wa
      go_wp2_with fail
      go_ret2
      exact HD.out
     ·have hdec' : dU m.length (bl y)=some (bl ra,bl rb):=by rcases wO with ⟨_,h⟩ | ⟨h,_⟩; exact h; cases h
      have Aw:=jZ (BF.out _ _ hdec')
      clear wO hdec'
      have Fl:=jZ (ac HR.out AK)
      have zB:=jZ (ac wa (vN.alloc vN.size (.cells #[.string ra,.string rb] 62)))
      clear wa
      have El:=q.size
      have Cw:w.heap.size≤(w4.alloc (.cells #[.string ra,.string rb] 62)).heap.size:=jT El AK.size
      go_wp2_with (at_builtin; refine cZ (w0:=w4.alloc (.cells #[.string ra,.string rb] 62)) rfl (.tmp 39) (.tmp 41) 58 rfl 62 _ 2 32 Tryz.underlying58 sl rfl (by omega) (by omega) w.heap.size _ _ _ rfl Fl #[.string ra,.string rb] 1 _ rfl (by first | rfl | simp | exact Array.size_push _) rfl (by simp [Value.oneCell']) (by omega) Cw rfl rfl rfl rfl ?_; intro v5 w5 zx xw hb5; obtain ⟨_,wW,x5,_,_⟩:=wG.out _ _ _ _ (eU zB.out Fl.out (show (62:TypeId) ≠ 9 by decide) xw); injection wW with wW; injection wW with wW _; subst wW)
      obtain ⟨A5,c5,yM⟩:=az zx.out
      subst yM
      go_roundw
      case rel =>
       refine ⟨a+(y.size+1),A5,c5,m++[⟨ra,rb⟩],acc++[((bl ra,bl rb),y.size+1)],by simp; omega,oM,sP,by go_num,⟨(q.go nR AK).go' hb5,rfl⟩, ?_, ?_, ?_, ?_⟩
       ·have h1:=HA.out; unfold dP at h1; unfold dP Hid; simp [h1]
       ·have h1:=HL.out; unfold Hid; rw [← h1]; simp [ci]
       ·have h1:=Aw.out; rw [Hid]; simpa using h1
       ·have h1:=zx.out; rw [Hid]; simpa [dq.enc] using h1
      case measure=>simp [lenOf]; omega
    ·obtain rfl:n0=1:=by rw [BH.2 h1] at vG; exact vG
     have HD:=jZ (DONE (du h1))
     clear DONE h1 hx xT hn Em Fo AJ BH vG xH
     go_wp2_with fail
     refine (BC.out _).mono ?_
     rintro e w3 ⟨A3,c3,rfl,wa,vQ⟩
     obtain ⟨g3,rfl,x0,hg3,hg3'⟩:=wG.out _ _ _ _ wa
     clear wa
     go_wp2_with fail
     refine (Fk.out _).mono ?_
     rintro e w4 ⟨ra,rb,ok,rfl,wO,vN⟩
     clear wO
     have AK:=av vQ (vN.alloc vN.size (.cells #[.string ra,.string rb] 62))
     have Kx:=jZ (HD.out _ AK)
     go_wp2_with fail
     go_ret2
     exact Kx.out
   ·have HD:Hid (gV s w (.returned (.tuple #[.slice A m.length c,.int .i64 (a:Nat)])) q.val):=DONE (by rw [show 60 - m.length=0 by omega]; rfl) _ jB
    clear DONE
    go_wp2
    go_ret2
    exact HD.out
  ·have HD:Hid (gV s w (.returned (.tuple #[.slice A m.length c,.int .i64 (a:Nat)])) q.val):=DONE (du (by rw [List.drop_eq_nil_of_le (by rw [ao]; omega)]; simp)) _ jB
   clear DONE
   go_wp2
   go_ret2
   exact HD.out
structure Lg where
 D:ByteArray
 P:ByteArray
 n:Int
abbrev Lg.val (l:Lg):Value:=.agg #[vw l.D,vw l.P,O U l.n]
noncomputable def Lg.ok (l:Lg):Bool:=qp (bl l.D) (bl l.P) l.n
def Lg.all (l:Lg):List UInt8:=bl l.D++bl l.P
theorem eH {α:Type} {l:List α} {j:Nat} (h:j < l.length) (d:α):l.getD j d=l[j]:=by rw [List.getD_eq_getElem?_getD,List.getElem?_eq_getElem h]; rfl
theorem nA {W:World} {B n:Nat} {A:Option Addr} {c:Nat} {l:List Nat} (h:W.ownsRow B 3 1 (F A n c) n (sR l)) (hn:n=l.length) (h0:0 < n) :
  ∃ g,A=some ⟨g,0,none⟩∧B≤g∧g < W.heap.size∧∀ j,j < n→W.cell? ⟨g,j,none⟩=some (O U ((l.getD j 0:Nat):Int)):=by
 obtain ⟨g,hA⟩ : ∃ g,A=some ⟨g,0,none⟩:=by
  obtain ⟨_,h0' | ⟨g,cap,cur,hv,_⟩⟩:=h
  ·have:=h0'.2; omega
  ·injection hv with e1 e2 e3; exact ⟨g,e1⟩
 subst hA
 refine ⟨g,rfl,(h.lt g rfl).1,(h.lt g rfl).2,fun j hj=>?_⟩
 rw [h.cellAt j oM]
 unfold sR
 rw [List.getElem?_map,List.getElem?_eq_getElem oM,eH oM]
 rfl
theorem od {W:World} {g c:Nat} {l:List Nat} {x:Nat} {n:Nat} (hn:n=l.length) (hb:n≤9223372036854775807) (h:∀ j,j < n→W.cell? ⟨g,j,none⟩=some (O U ((l.getD j 0:Nat):Int))) :
  Calls vx 78 #[F (some ⟨g,0,none⟩) n c,O U (x:Int)] W fun e w'=>e=.returned (.bool (decide (x ∈ l)))∧w'=W:=by
 have h1:=Tryz.slices_Contains_int g 0 n c (l.map fun (y:Nat)=>(y:Int)) x W (by simp; omega) hb (fun j hj=>by
  simp only [List.length_map] at hj
  rw [Nat.zero_add,h j oM,eH hj,eH (by simpa using hj)]
  simp)
 have h2:((l.map fun (y:Nat)=>(y:Int)).take n).contains (x:Int)=decide (x ∈ l):=by
  rw [List.take_of_length_le (by simp; omega),Bool.eq_iff_iff]
  simp only [List.contains_eq_mem,decide_eq_true_eq,List.mem_map]
  exact ⟨fun ⟨a,ha,e⟩=>by rw [← Int.ofNat.inj e]; exact ha,fun h=>⟨x,h,rfl⟩⟩
 rw [h2] at h1
 exact h1
set_option maxRecDepth 100000 in
theorem kh (l:Lg) (w:World) (hs:l.D.size+l.P.size≤2000000) (ht:iN w) :
  Calls vx 42 #[l.val] w fun e w'=>e=.returned (.bool l.ok)∧Below w.heap.size w w':=by
 have b1:=bZ w (.cells #[vw l.D,vw l.P,O U l.n] 27)
 have L1:=ah.new w 27 #[vw l.D,vw l.P,O U l.n]
 have xk:=ht.then b1
 have y7:bl (l.D++l.P)=bl l.D++bl l.P:=dk _ _
 have hz:(l.D++l.P).size=l.D.size+l.P.size:=bg _ _
 have Jg:=jZ (fun W hW=>gG (l.D++l.P) W oM hW)
 have vF:=@rm (bl l.D) (bl l.P) l.n
 have vG:=cF 60 0 (bl (l.D++l.P))
 have hroom:=fD 60 0 (bl (l.D++l.P))
 have hlast:=kE 0 (aF 60 0 (bl (l.D++l.P)))
 have EN:=gM 0 (aF 60 0 (bl (l.D++l.P)))
 rw [← y7] at vF
 rw [ao] at hroom
 rw [ao,ao] at vF
 rw [Nat.zero_add] at hlast
 obtain ⟨rs,BI⟩ : ∃ rs,rs=aF 60 0 (bl (l.D++l.P)):=⟨_,rfl⟩
 obtain ⟨en,Ic⟩ : ∃ en,en=ei 0 (aF 60 0 (bl (l.D++l.P))):=⟨_,rfl⟩
 have Dx:Hid (∀ W,iN W→Calls vx 68 #[vw (l.D++l.P)] W fun e w'=>∃ A c A' c' k g,k=rs.length∧A'=some ⟨g,0,none⟩∧e=.returned (.tuple #[F A k c,F A' (k+1) c'])∧(∀ j,j < k+1→w'.cell? ⟨g,j,none⟩=some (O U ((en.getD j 0:Nat):Int)))∧Below W.heap.size W w'):=fun W hW=>by
  refine (Jg.out W hW).mono ?_
  rintro e w' ⟨A,c,A',c',m,rfl,hm,_,hO,hb⟩
  have Cx:=gq hm
  obtain ⟨g,hA,_,_,hc⟩:=nA hO (by rw [gM,Cx]) oM
  exact ⟨A,c,A',c',m.length,g,by rw [Cx,BI],hA,rfl,by rw [Ic]; exact hc,hb⟩
 clear Jg
 rw [← Ic] at hlast EN vF
 rw [← BI] at vG hroom hlast EN vF
 obtain ⟨k0,Ab⟩ : ∃ k0,k0=rs.length:=⟨_,rfl⟩
 rw [← Ab] at vG hlast EN vF Dx
 obtain ⟨z,xQ⟩ : ∃ z,z=ci rs:=⟨_,rfl⟩
 rw [← xQ] at hroom hlast vF
 have hlast' : en.getD k0 0=z:=by rw [List.getD_eq_getElem?_getD,hlast]; rfl
 have Ad:Hid (∀ (W:World) (g c:Nat),(∀ j,j < k0+1→W.cell? ⟨g,j,none⟩=some (O U ((en.getD j 0:Nat):Int)))→Calls vx 78 #[F (some ⟨g,0,none⟩) (k0+1) c,O U (l.D.size:Int)] W fun e w'=>e=.returned (.bool (decide (l.D.size ∈ en)))∧w'=W):=fun W g c h=>od oM oM h
 have vY:Hid (l.ok=(decide (z=l.D.size+l.P.size) && decide (l.D.size ∈ en) && decide (l.n=(k0:Int)))):=by
  unfold Hid Lg.ok
  rw [Bool.eq_iff_iff,vF]
  simp [and_assoc]
 clear vF hlast y7 BI Ic Ab xQ
 generalize decide (l.D.size ∈ en)=dc at Ad vY
 go_enter Tryz.func42,Tryz.ntmps42
 go_wp2_with fail
 generalize w.alloc (.cells #[vw l.D,vw l.P,O U l.n] 27)=W at b1 L1 xk ⊢
 generalize hg:w.heap.size=g at L1 ⊢
 refine (Dx.out _ xk).mono ?_
 rintro e w2 ⟨A,c,A',c',k,g',rfl,rfl,rfl,hc',vC⟩
 have L2:=L1.below vC L1.lt
 obtain ⟨c0,c1,c2⟩:=cells3 L2
 have Id:=jZ (Ad.out w2 g' c' hc')
 have hl:=hc' k oM
 rw [hlast'] at hl
 have xy:Below w.heap.size w w2:=by rw [← hg] at *; exact av b1 vC
 clear L1 L2 hc' Ad Dx
 by_cases e1:z=l.D.size+l.P.size
 ·rw [jD e1] at vY
  have d1:((z:Int) == (l.D.size:Int)+(l.P.size:Int))=true:=by rw [e1]; simp
  cases dc
  ·clear e1
   go_wp2_with (go_at_call 78; refine (Id.out).mono ?_; rintro e w' ⟨rfl,rfl⟩)
   go_ret
   exact ⟨by rw [vY.out]; rfl,xy⟩
  ·by_cases e3:l.n=(k:Int)
   ·rw [jD e3] at vY
    have d3:(l.n == (k:Int))=true:=by rw [e3]; simp
    clear e1 e3
    go_wp2_with (go_at_call 78; refine (Id.out).mono ?_; rintro e w' ⟨rfl,rfl⟩)
    go_ret
    exact ⟨by rw [vY.out]; rfl,xy⟩
   ·rw [jE e3] at vY
    have d3:(l.n == (k:Int))=false:=by simp [e3]
    clear e1 e3
    go_wp2_with (go_at_call 78; refine (Id.out).mono ?_; rintro e w' ⟨rfl,rfl⟩)
    go_ret
    exact ⟨by rw [vY.out]; rfl,xy⟩
 ·rw [jE e1] at vY
  have d1:((z:Int) == (l.D.size:Int)+(l.P.size:Int))=false:=by simp; omega
  clear e1
  go_wp2_with fail
  go_ret
  exact ⟨by rw [vY.out]; rfl,xy⟩
set_option maxRecDepth 100000 in
theorem jo (l:Lg) (w:World) (hs:l.D.size+l.P.size≤2000000) :
  Calls vx 40 #[l.val] w fun e w'=>e=.returned (.bool l.ok)∧Below w.heap.size w w':=by
 have b1:=bZ w (.cells #[vw l.D,vw l.P,O U l.n] 27)
 have L1:=ah.new w 27 #[vw l.D,vw l.P,O U l.n]
 have y7:bl (l.D++l.P)=bl l.D++bl l.P:=dk _ _
 have hz:(l.D++l.P).size=l.D.size+l.P.size:=bg _ _
 have vF:=@bY (bl l.D) (bl l.P) l.n
 rw [← y7] at vF
 rw [ao,ao] at vF
 by_cases zy:30000 < l.D.size+l.P.size
 ·have vY:Hid (l.ok=false):=by
   unfold Hid Lg.ok
   rw [Bool.eq_false_iff]
   intro h
   have h1:=eX (by rw [← y7,ao,ao]; exact (vF.1 h).1)
   rw [ao,ao] at h1; omega
  have d0:decide (30000 < (l.D.size:Int)+(l.P.size:Int))=true:=jD oM
  clear vF zy
  go_enter Tryz.func40,Tryz.ntmps40
  go_wp2_with fail
  go_ret
  exact ⟨by rw [vY.out]; rfl,b1⟩
 ·have d0:decide (30000 < (l.D.size:Int)+(l.P.size:Int))=false:=jE oM
  have AD:l.D.size+l.P.size≤30000:=oM
  have HA:=jZ (fun W=>jP (l.D++l.P) W oM)
  have HB:=jZ (fun W=>jP l.D W oM)
  have vG:=cF 60 0 (bl (l.D++l.P))
  have hroom:=fD 60 0 (bl (l.D++l.P))
  have hroomD:=fD 60 0 (bl l.D)
  rw [ao] at hroom hroomD
  obtain ⟨k0,Ab⟩ : ∃ k0,k0=(aF 60 0 (bl (l.D++l.P))).length:=⟨_,rfl⟩
  obtain ⟨z,xQ⟩ : ∃ z,z=ci (aF 60 0 (bl (l.D++l.P))):=⟨_,rfl⟩
  obtain ⟨y,Gq⟩ : ∃ y,y=ci (aF 60 0 (bl l.D)):=⟨_,rfl⟩
  have AH:Hid (∀ W,Calls vx 77 #[vw (l.D++l.P)] W fun e w'=>∃ A c k,k=k0∧e=.returned (.tuple #[F A k c,O U (z:Nat)])∧Below W.heap.size W w'):=fun W=>by
   refine (HA.out W).mono ?_
   rintro e w' ⟨A,c,m,rfl,hm,_,hb⟩
   exact ⟨A,c,m.length,by rw [gq hm,Ab],by rw [xQ],hb⟩
  have Gr:Hid (∀ W,Calls vx 77 #[vw l.D] W fun e w'=>∃ A c k,e=.returned (.tuple #[F A k c,O U (y:Nat)])∧Below W.heap.size W w'):=fun W=>by
   refine (HB.out W).mono ?_
   rintro e w' ⟨A,c,m,rfl,hm,_,hb⟩
   exact ⟨A,c,m.length,by rw [Gq],hb⟩
  rw [← Ab,← xQ,← Gq] at vF
  rw [← Ab] at vG
  rw [← xQ] at hroom
  rw [← Gq] at hroomD
  have vY:Hid (l.ok=(decide (z=l.D.size+l.P.size) && decide (y=l.D.size) && decide ((k0:Int)=l.n))):=by
   unfold Hid Lg.ok
   rw [Bool.eq_iff_iff,vF]
   simp [and_assoc]
  clear vF y7 Ab xQ Gq HA HB zy
  go_enter Tryz.func40,Tryz.ntmps40
  go_wp2_with fail
  generalize w.alloc (.cells #[vw l.D,vw l.P,O U l.n] 27)=W at b1 L1 ⊢
  generalize hg:w.heap.size=g at L1 ⊢
  refine (AH.out _).mono ?_
  rintro e w2 ⟨A,c,k,rfl,rfl,vC⟩
  have L2:=L1.below vC L1.lt
  obtain ⟨c0,c1,c2⟩:=cells3 L2
  clear L1
  go_wp2_with fail
  refine (Gr.out _).mono ?_
  rintro e w3 ⟨A',c',k',rfl,vQ⟩
  have L3:=L2.below vQ L2.lt
  clear c0 c1 c2
  obtain ⟨c0,c1,c2⟩:=cells3 L3
  have xy:Below w.heap.size w w3:=by rw [← hg] at *; exact av b1 (av vC vQ)
  clear L2 L3
  by_cases e1:z=l.D.size+l.P.size
  ·rw [jD e1] at vY
   have d1:((z:Int) == (l.D.size:Int)+(l.P.size:Int))=true:=by rw [e1]; simp
   by_cases e2:y=l.D.size
   ·rw [jD e2] at vY
    have d2:((y:Int) == (l.D.size:Int))=true:=by rw [e2]; simp
    by_cases e3:(k:Int)=l.n
    ·rw [jD e3] at vY
     have d3:((k:Int) == l.n)=true:=by rw [e3]; simp
     clear e1 e2 e3
     go_wp2_with fail
     go_ret
     exact ⟨by rw [vY.out]; rfl,xy⟩
    ·rw [jE e3] at vY
     have d3:((k:Int) == l.n)=false:=by simp [e3]
     clear e1 e2 e3
     go_wp2_with fail
     go_ret
     exact ⟨by rw [vY.out]; rfl,xy⟩
   ·rw [jE e2] at vY
    have d2:((y:Int) == (l.D.size:Int))=false:=by simp; omega
    clear e1 e2
    go_wp2_with fail
    go_ret
    exact ⟨by rw [vY.out]; rfl,xy⟩
  ·rw [jE e1] at vY
   have d1:((z:Int) == (l.D.size:Int)+(l.P.size:Int))=false:=by simp; omega
   clear e1
   go_wp2_with fail
   go_ret
   exact ⟨by rw [vY.out]; rfl,xy⟩
end Go.Proofs.YtoeoimhemojdeaaGreatDoor
namespace Go.Proofs.YtoeoimhemojdeaaGreatDoor
open Go.ChangeShapes Go.WideShapes Go.ChangeAt Go.RowKit Go.Deep
section
variable {H:Type} {enc:TypeId × Value→H} {P:Program} {w:World} {base:Nat} {spare:Nat→Bool} {held:Bool}
theorem sU {w:World} {a:Addr} {u:Value} (h:w.cell? a=some u):∃ b off,a=⟨b,off,none⟩∧b < w.heap.size:=by
 obtain ⟨b,off,sp⟩:=a
 cases sp with
 | none=>exact ⟨b,off,rfl,block_lt_of_cell h⟩
 | some s =>
  simp only [World.cell?] at h
  split at h <;> simp_all
theorem qv {t e:TypeId} {k n:Nat} {v:Value} {x:DataW H × List MemPlace} (ht:P.underlying t=some (.slice e)) (hk:P.cellsOf e=k) (Ab:0 < k)
  (h:DataW.trod enc P w base spare held n t [v]=some x) :
  ∃ A len cap,v=.slice A len cap∧∃ css:List (List Value),css.length=len∧bn w w.heap.size k A len css.flatten ∧
   ∀ cs ∈ css,cs.length=k∧∃ m y,DataW.trod enc P w base spare held m e cs=some y:=by
 rcases open_slice ht h with ⟨h0,_⟩ | ⟨a,len,cap,m,n',D,Pl,wU,hb,hl,hm,Fp,hx,hi⟩
 ·have:v=.slice none 0 0:=by simpa using h0
  exact ⟨none,0,0,this,[],rfl,bn.nil _ _ _ _,sP⟩
 ·have hv:v=.slice (some a) len cap:=by simpa using wU
  have Ae:len≤m:=by rw [Fp]; split <;> omega
  rw [hk] at hi
  have Ie:∀ i:Nat,∃ cs:List Value,cs.length=k∧(i < len→(∀ j u,cs[j]?=some u→w.cell? ((a.add (i * k)).add j)=some u)∧∃ m y,DataW.trod enc P w base spare held m e cs=some y):=fun i=>by
   by_cases vH:i < len
   ·obtain ⟨cs',hc,ht'⟩:=hi i oM
    obtain ⟨_,wS,hat⟩:=World.cells?_some hc
    exact ⟨cs',wS,fun _=>⟨fun j u hu=>by
     have hj:j < cs'.length:=(List.getElem?_eq_some_iff.1 hu).1
     rw [hat j oM,hu],_,_,ht'⟩⟩
   ·exact ⟨List.replicate k undef,sP,fun h=>absurd h vH⟩
  obtain ⟨f,hf⟩:=Classical.axiomOfChoice Ie
  have Ek:∀ i,(f i).length=k:=fun i=>(hf i).1
  have vG:=fO f k Ek (List.range len)
  rw [List.length_range,List.flatMap_def] at vG
  refine ⟨some a,len,cap,hv,(List.range len).map f,sP,⟨vG,by unfold maxLen at hm; omega,fun Fq=>?_⟩, ?_⟩
  ·have h00:(f 0)[0]?=some ((f 0)[0]'(by rw [Ek]; exact Ab)):=List.getElem?_eq_getElem _
   have hc0:=((hf 0).2 Fq).1 0 _ h00
   rw [Nat.zero_mul] at hc0
   obtain ⟨b,off,rfl,hb'⟩:=sU (a:=a) hc0
   refine ⟨b,off,rfl,hb',fun j u hu=>?_⟩
   have hj:j < len * k:=by rw [← vG]; exact (List.getElem?_eq_some_iff.1 hu).1
   have hi' : j / k < len:=Nat.div_lt_of_lt_mul (by rw [Nat.mul_comm]; exact hj)
   have hr:j % k < k:=Nat.mod_lt _ Ab
   have e:j=j / k * k+j % k:=by rw [Nat.mul_comm]; exact (Nat.div_add_mod j k).symm
   have hat:=eY f k Ek (List.range len) (j / k) (by simpa using hi') (j % k) hr
   rw [List.flatMap_def,← e,List.getElem_range,hu] at hat
   have hc:=((hf (j / k)).2 hi').1 (j % k) u hat.symm
   have If:((⟨b,off,none⟩ : Addr).add (j / k * k)).add (j % k)=⟨b,off+j,none⟩:=by
    unfold Addr.add
    by_cases h1:j / k * k=0 <;> by_cases h2:j % k=0 <;> simp [h1,h2] <;> omega
   rw [If] at hc
   exact hc
  ·intro cs wU
   obtain ⟨i,hi,rfl⟩:=List.mem_map.1 wU
   exact ⟨Ek i,((hf i).2 (List.mem_range.1 hi)).2⟩
end
theorem lR {α:Type} (enc:α→List Value):∀ css:List (List Value),(∀ cs ∈ css,∃ x,cs=enc x)→∃ l:List α,css.flatten=l.flatMap enc∧l.length=css.length
 | [],_=>⟨[],rfl,rfl⟩
 | cs :: css,h=>by
  obtain ⟨x,hx⟩:=h cs sP
  obtain ⟨l,hl,hn⟩:=lR enc css (fun c hc=>h c (by simp [hc]))
  exact ⟨x :: l,by simp [hl,hx],by simp [hn]⟩
section
variable {H:Type} {enc:TypeId × Value→H} {P:Program} {w:World} {base:Nat} {spare:Nat→Bool} {held:Bool}
end
section
variable {H:Type} {enc:TypeId × Value→H} {P:Program} {w:World} {base:Nat} {spare:Nat→Bool} {held:Bool}
end
end Go.Proofs.YtoeoimhemojdeaaGreatDoor
namespace Go.Proofs.YtoeoimhemojdeaaGreatDoor
open Go.RowKit
abbrev aI (x:aO) (l:Lg):Value:=.agg #[F x.TA x.t.length x.tc,F x.OA x.o.length x.oc,O U x.gt,O U x.sd,O U x.ms,vw l.D,vw l.P,O U l.n]
noncomputable def dV (x:aO) (l:Lg):Bool:=an x && l.ok
theorem kG {w:World} {g:Nat} {t:TypeId} {x:aO} {l:Lg} (h:ah w g t [F x.TA x.t.length x.tc,F x.OA x.o.length x.oc,O U x.gt,O U x.sd,O U x.ms,vw l.D,vw l.P,O U l.n]) (hr:aP w w.heap.size x):cm w w.heap.size g x :=
 ⟨⟨fun p=>(p.cell h.lt).trans (h.cell 0),fun p=>(p.cell h.lt).trans (h.cell 1),fun p=>(p.cell h.lt).trans (h.cell 2),fun p=>(p.cell h.lt).trans (h.cell 3),fun p=>(p.cell h.lt).trans (h.cell 4)⟩,h.lt,hr⟩
theorem fI (x:aO) (l:Lg) (w:World) (h:aP w w.heap.size x) (hs:l.D.size+l.P.size≤2000000) :
  Calls vx 45 #[aI x l] w fun e w'=>e=.returned (.bool (dV x l))∧Below w.heap.size w w':=by
 have b1:=bZ w (.cells #[F x.TA x.t.length x.tc,F x.OA x.o.length x.oc,O U x.gt,O U x.sd,O U x.ms,vw l.D,vw l.P,O U l.n] 42)
 have L1:=ah.new w 42 #[F x.TA x.t.length x.tc,F x.OA x.o.length x.oc,O U x.gt,O U x.sd,O U x.ms,vw l.D,vw l.P,O U l.n]
 have cO:=ef x _ (h.up b1 nR)
 have HC:Hid (dV x l=(an x && l.ok)):=rfl
 have cL:=fun W=>jo l W hs
 generalize an x=v1 at cO HC
 generalize l.ok=v2 at cL HC
 cases v1
 ·go_enter Tryz.func45,Tryz.ntmps45
  go_wp2_with fail
  refine cO.mono ?_
  rintro e w1 ⟨rfl,vD⟩
  go_wp2_with fail
  go_ret
  exact ⟨by rw [HC.out]; rfl,av b1 vD⟩
 ·go_enter Tryz.func45,Tryz.ntmps45
  go_wp2_with fail
  refine cO.mono ?_
  rintro e w1 ⟨rfl,vD⟩
  have M1:=L1.below vD L1.lt
  have c5:=M1.cell 5
  have c6:=M1.cell 6
  have c7:=M1.cell 7
  simp only [gz0,gz1] at c5 c6 c7
  go_wp2_with fail
  refine (cL _).mono ?_
  rintro e w2 ⟨rfl,vC⟩
  go_wp2_with fail
  go_ret
  exact ⟨by rw [HC.out]; rfl,av b1 (av vD vC)⟩
theorem lq (x:aO) (l:Lg) (w:World) (h:aP w w.heap.size x) (hs:l.D.size+l.P.size≤2000000) :
  Calls vx 29 #[aI x l] w fun e w'=>e=.returned (.bool (dV x l))∧Below w.heap.size w w':=by
 have b1:=bZ w (.cells #[F x.TA x.t.length x.tc,F x.OA x.o.length x.oc,O U x.gt,O U x.sd,O U x.ms,vw l.D,vw l.P,O U l.n] 42)
 go_enter Tryz.func29,Tryz.ntmps29
 go_wp2_with fail
 refine (fI x l _ (h.up b1 nR) hs).mono ?_
 rintro e w1 ⟨rfl,hb⟩
 go_wp2
 go_ret
 exact ⟨rfl,av b1 hb⟩
theorem dA (x:aO) (l:Lg) (w:World) (h:aP w w.heap.size x) (hs:l.D.size+l.P.size≤2000000) (ht:iN w) :
  Calls vx 28 #[aI x l] w fun e w'=>e=.returned (.bool (dV x l))∧Below w.heap.size w w':=by
 have b1:=bZ w (.cells #[F x.TA x.t.length x.tc,F x.OA x.o.length x.oc,O U x.gt,O U x.sd,O U x.ms,vw l.D,vw l.P,O U l.n] 42)
 have L1:=ah.new w 42 #[F x.TA x.t.length x.tc,F x.OA x.o.length x.oc,O U x.gt,O U x.sd,O U x.ms,vw l.D,vw l.P,O U l.n]
 have xk:=ht.then b1
 have cO:=aZ x _ _ (kG L1 (h.up b1 nR))
 have HC:Hid (dV x l=(an x && l.ok)):=rfl
 have cL:=fun W hW=>kh l W hs hW
 generalize an x=v1 at cO HC
 generalize l.ok=v2 at cL HC
 cases v1
 ·go_enter Tryz.func28,Tryz.ntmps28
  go_wp2_with fail
  refine cO.mono ?_
  rintro e w1 ⟨rfl,vD⟩
  go_wp2_with fail
  go_ret
  exact ⟨by rw [HC.out]; rfl,av b1 vD⟩
 ·go_enter Tryz.func28,Tryz.ntmps28
  go_wp2_with fail
  refine cO.mono ?_
  rintro e w1 ⟨rfl,vD⟩
  have M1:=L1.below vD L1.lt
  have c5:=M1.cell 5
  have c6:=M1.cell 6
  have c7:=M1.cell 7
  simp only [gz0,gz1] at c5 c6 c7
  go_wp2_with fail
  refine (cL _ (xk.then vD)).mono ?_
  rintro e w2 ⟨rfl,vC⟩
  go_wp2_with fail
  go_ret
  exact ⟨by rw [HC.out]; rfl,av b1 (av vD vC)⟩
theorem ki {W:World} {g:Nat} {l:List UInt8} {cap:Nat} (h:∀ j,j < l.length→W.cell? ⟨g,j,none⟩=some (.int .u8 ((l.getD j 0).toNat:Int))) :
  (convert 54 9 (F (some ⟨g,0,none⟩) l.length cap)).run vx W=.ok (vw ⟨l.toArray⟩) W :=
 run_convert_bytes_back W 54 9 5 ⟨g,0,none⟩ cap l Tryz.underlying54 Tryz.underlying5 Tryz.underlying9 (fun j hj=>by
  have e:(⟨g,0,none⟩ : Addr).add j=⟨g,j,none⟩:=by unfold Addr.add; simp <;> exact fun h=>h.symm
  rw [e,h j hj,eH hj])
noncomputable def ii (l:Lg):Lg:=if l.ok then ⟨l.D++l.P,⟨#[]⟩,l.n⟩ else ⟨⟨#[]⟩,⟨#[]⟩,0⟩
set_option maxRecDepth 100000 in
theorem pu (l:Lg) (w:World) (hs:l.D.size+l.P.size≤2000000) :
  Calls vx 191 #[l.val] w fun e w'=>e=.returned (.tuple #[(ii l).val,.bool l.ok])∧Below w.heap.size w w':=by
 have b1:=(bZ w (.cells #[vw l.D,vw l.P,O U l.n] 27)).alloc sP (.cells #[vw ⟨#[]⟩,vw ⟨#[]⟩,O U 0] 27)
 have L1:=(ah.new w 27 #[vw l.D,vw l.P,O U l.n]).alloc (.cells #[vw ⟨#[]⟩,vw ⟨#[]⟩,O U 0] 27)
 have N1:=ah.new (w.alloc (.cells #[vw l.D,vw l.P,O U l.n] 27)) 27 #[vw ⟨#[]⟩,vw ⟨#[]⟩,O U 0]
 have hz:(l.D++l.P).size=l.D.size+l.P.size:=bg _ _
 have Gu:Hid (ii l=if l.ok then ⟨l.D++l.P,⟨#[]⟩,l.n⟩ else ⟨⟨#[]⟩,⟨#[]⟩,0⟩):=rfl
 go_enter Tryz.func191,Tryz.ntmps191
 go_wp2_with fail
 have wW:(w.alloc (.cells #[vw l.D,vw l.P,O U l.n] 27)).heap.size=w.heap.size+1:=sP
 generalize (w.alloc (.cells #[vw l.D,vw l.P,O U l.n] 27)).alloc (.cells #[vw ⟨#[]⟩,vw ⟨#[]⟩,O U 0] 27)=W at  b1 L1 N1 ⊢
 rw [wW] at N1
 generalize hg:w.heap.size=g at L1 N1 ⊢
 refine (jo l _ hs).mono ?_
 rintro e w2 ⟨rfl,vC⟩
 have L2:=L1.below vC L1.lt
 have N2:=N1.below vC N1.lt
 have c0:=L2.cell 0
 have c1:=L2.cell 1
 have c2:=L2.cell 2
 have n0:=N2.cell 0
 have n1:=N2.cell 1
 have n2:=N2.cell 2
 obtain ⟨f0,f1,f2⟩:=frz3 N2
 have Cb:=L2.lt
 have Gv:=N2.lt
 simp only [gz0,gz1] at c0 c1 c2 n0 n1 n2
 have xy:Below w.heap.size w w2:=by rw [← hg] at *; exact av b1 vC
 clear L1 L2 N1 N2
 cases vF:l.ok
 ·have HV:Hid (ii l=⟨⟨#[]⟩,⟨#[]⟩,0⟩):=by rw [Gu.out,vF]; rfl
  have HK:=jZ vF
  clear vF Gu
  go_wp2_with fail
  refine bodyPost_ret (v:=.tuple #[.agg #[vw ⟨#[]⟩,vw ⟨#[]⟩,O U 0],.bool false]) (by simp [results,Tryz.results191,go_sem, *]) rfl ⟨by rw [HK.out,HV.out], ?_⟩
  refine xy.trans ?_
  repeat (first | exact Below.refl _ _ | refine Below.setCell ?_ (by simp; omega) _)
 ·have HV:Hid (ii l=⟨l.D++l.P,⟨#[]⟩,l.n⟩):=by rw [Gu.out,vF]; rfl
  have HK:=jZ vF
  clear vF Gu
  go_wp2_with fail
  refine bodyPost_ret (v:=.tuple #[.agg #[vw (l.D++l.P),vw ⟨#[]⟩,O U l.n],.bool true]) (by simp [results,Tryz.results191,go_sem, *]) rfl ⟨by rw [HK.out,HV.out], ?_⟩
  refine xy.trans ?_
  repeat (first | exact Below.refl _ _ | refine Below.setCell ?_ (by simp; omega) _)
def mL (w:World) (B:Nat) (A:Option Addr) (m:List dq):Prop:=bn w B 2 A m.length (m.flatMap dq.enc)
theorem mL.of {w:World} {B c:Nat} {A:Option Addr} {m:List dq} (h:w.ownsRow B 62 2 (F A m.length c) m.length (m.flatMap dq.enc)):mL w w.heap.size A m:=(cq.of h).reads
theorem mL.then {w w' : World} {A:Option Addr} {m:List dq} (h:mL w w.heap.size A m) (hb:Below w.heap.size w w'):mL w' w'.heap.size A m:=bn.then h hb
theorem mL.cells {w:World} {B:Nat} {A:Option Addr} {m:List dq} (h:mL w B A m) (vJ:0 < m.length):∃ b off,A=some ⟨b,off,none⟩∧b < B∧∀ i (hi:i < m.length) (p:ap B w),
  p.val.cell? ⟨b,off+i * 2,none⟩=some (vw m[i].c)∧p.val.cell? ⟨b,off+i * 2+1,none⟩=some (vw m[i].r):=by
 obtain ⟨b,off,e,hb,hc⟩:=bn.at_ h vJ
 refine ⟨b,off,e,hb,fun i hi p=>?_⟩
 have key:∀ j,j < 2→∀ u,(m[i].enc)[j]?=some u→p.val.cell? ⟨b,off+i * 2+j,none⟩=some u:=fun j hj u hu=>by
  rw [p.cell hb,Nat.add_assoc]
  exact hc _ u (by rw [eY dq.enc 2 dq.enc_len m i hi j hj]; exact hu)
 exact ⟨key 0 oM _ rfl,key 1 oM _ rfl⟩
def eI (s:ByteArray):Bool:=decide (s.size≤30000)
noncomputable def fX (s:ByteArray):Nat:=if eI s then ci (aF 60 0 (bl s)) else 0
noncomputable def eL (s:ByteArray):Lg:=if eI s then ⟨s.extract 0 (ci (aF 60 0 (bl s))),⟨#[]⟩,((aF 60 0 (bl s)).length:Nat)⟩ else ⟨⟨#[]⟩,⟨#[]⟩,0⟩
end Go.Proofs.YtoeoimhemojdeaaGreatDoor
