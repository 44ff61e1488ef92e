/- Lemmas. -/
import Derived.ProofKit
import Derived.ChangeOld
import Derived.ShutString
import Derived.OpenShut
import Derived.Deep.Slices
import Derived.Deep.Fields
import Derived.Laws.IdiomStrings
import Derived.Test.YtoeoimhemojdeaaGreatDoorFs28

set_option linter.unusedVariables false
set_option linter.unusedSimpArgs false
set_option maxHeartbeats 8000000
open Go.Value renaming int → O, slice → F, string → wG
open Go.IntKind renaming i64 → U
open Go.Proofs.Tryz renaming prog → wH

namespace Go.Proofs.YtoeoimhemojdeaaGreatDoor
open Go.RowKit
theorem kl {w:World} {B:Nat} {A:Option Addr} {c:Nat} {s:ByteArray} {b:UInt8} (h:w.ownsRow B 9 1 (F A (aI b (bl s)).length c) (aI b (bl s)).length (dP (aI b (bl s)))) :
  ∃ g,A=some ⟨g,0,none⟩∧w.cell? ⟨g,0,none⟩=some (wG (aV s b))∧B≤g∧g < w.heap.size:=by
 obtain ⟨ps,zL,_⟩:=gD b (bl s)
 have wR:0 < (aI b (bl s)).length:=by rw [zL]; simp
 obtain ⟨g,hA⟩ : ∃ g,A=some ⟨g,0,none⟩:=by
  obtain ⟨_,h0 | ⟨g,cap,cur,hv,_⟩⟩:=h
  ·have:=h0.2; omega
  ·injection hv with e1 e2 e3; exact ⟨g,e1⟩
 subst hA
 refine ⟨g,rfl, ?_,(h.lt g rfl).1,(h.lt g rfl).2⟩
 rw [h.cellAt 0 oM,zL]
 rfl
set_option maxRecDepth 100000 in
theorem rh (k:Nat) (s:ByteArray) (w:World) (hk:k≤1000) (hs:s.size≤1000000) :
  Calls wH 128 #[wG s,O U k] w (n8 k s w):=by
 have b1:=bZ w (.cells #[wG ⟨#[]⟩,wG ⟨#[]⟩] 62)
 have L1:=ai.new w 62 #[wG ⟨#[]⟩,wG ⟨#[]⟩]
 obtain ⟨t,zn⟩ : ∃ t:ByteArray,t=⟨(Lib.itoa (k:Int)).toArray⟩:=⟨_,rfl⟩
 have BT:t.size≤100:=by rw [zn]; exact bD oM oM
 have HN:Hid (∀ W,Calls wH 71 #[O U k] W fun e w'=>e=.returned (wG t)∧Below W.heap.size W w'):=fun W=>by rw [zn]; exact bP (k:Int) W oM oM
 have HT:Hid (bl t=Lib.itoa (k:Int)):=by rw [zn,Hid,bo]
 have Bq:Hid (bl (t++⟨#[32]⟩)=Lib.itoa (k:Int)++[32]):=by rw [Hid,cE,HT.out]; rfl
 clear zn
 have z1:(⟨#[32]⟩ : ByteArray).size=1:=rfl
 have z2:(⟨#[10]⟩ : ByteArray).size=1:=rfl
 have Db:=jZ (fun W=>iN s 35 W oM)
 obtain ⟨x,hx⟩ : ∃ x:ByteArray,x=aV s 35:=⟨_,rfl⟩
 have y6:bl x=cP 35 (bl s):=by rw [hx]; unfold aV; rw [bo]
 have BJ:x.size≤1000000:=by rw [← an,y6]; have:=lJ 35 (bl s); rw [an] at this; omega
 have xJ:Hid (∀ (W:World) (B:Nat) (A:Option Addr) (c:Nat),W.ownsRow B 9 1 (F A (aI 35 (bl s)).length c) (aI 35 (bl s)).length (dP (aI 35 (bl s)))→∃ g,A=some ⟨g,0,none⟩∧W.cell? ⟨g,0,none⟩=some (wG x)∧B≤g∧g < W.heap.size):=fun W B A c h=>by
  rw [hx]; exact kl h
 have Jz:1≤(aI 35 (bl s)).length:=by obtain ⟨ps,e,_⟩:=gD 35 (bl s); rw [e]; simp
 have JA:(aI 35 (bl s)).length≤1000001:=by have:=gC 35 (bl s) []; rw [an] at this; unfold aI; omega
 obtain ⟨n0,yK⟩ : ∃ n,n=(aI 35 (bl s)).length:=⟨_,rfl⟩
 rw [← yK] at Db xJ Jz JA
 clear hx yK
 obtain ⟨p,hp⟩ : ∃ p:ByteArray,p=t++⟨#[32]⟩:=⟨_,rfl⟩
 have MF:p.size=t.size+1:=by rw [hp,bg]; rfl
 by_cases Aa:(Lib.itoa (k:Int)++[32]) <+: bl x
 ·have hsplit:=rf Aa
  have MG:p.size≤x.size:=by have:=Aa.length_le; rw [← Bq.out,← hp,an,an] at this; exact this
  obtain ⟨u,hu⟩ : ∃ u:ByteArray,u=x.extract p.size x.size:=⟨_,rfl⟩
  have Cz:bl u=(bl x).drop (Lib.itoa (k:Int)++[32]).length:=by
   rw [hu,bI,List.take_of_length_le (by rw [an]; exact Nat.le_refl _),← Bq.out,← hp,an]
  rw [← Cz] at hsplit
  have Lf:u.size≤1000000:=by rw [← an,Cz,List.length_drop,an]; omega
  have d1:decide ((x.size:Int) < (p.size:Int))=false:=jE oM
  have d2:((x.extract 0 p.size).toList == p.toList)=true:=by
   rw [lN]; refine jD ?_
   have e1:bl p=Lib.itoa (k:Int)++[32]:=by rw [hp]; exact Bq.out
   rw [bI,List.drop_zero,e1,hsplit,show p.size=(Lib.itoa (k:Int)++[32]).length by rw [← e1]; rfl]
   exact List.take_left' rfl
  have GF:Hid (∀ W,Calls wH 58 #[wG u,.int .u8 64] W fun e w'=>∃ A c,e=.returned (F A (aI 64 (bl u)).length c)∧w'.ownsRow W.heap.size 9 1 (F A (aI 64 (bl u)).length c) (aI 64 (bl u)).length (dP (aI 64 (bl u)))∧Below W.heap.size W w'):=fun W=>by
   exact iN u 64 W oM
  have y9:Hid (∀ (W:World) (B:Nat) (A:Option Addr) (c:Nat),W.ownsRow B 9 1 (F A (aI 64 (bl u)).length c) (aI 64 (bl u)).length (dP (aI 64 (bl u)))→∃ g,A=some ⟨g,0,none⟩∧W.cell? ⟨g,0,none⟩=some (wG (aV u 64))∧B≤g∧g < W.heap.size):=fun W B A c h=>kl h
  have JB:1≤(aI 64 (bl u)).length:=by obtain ⟨ps,e,_⟩:=gD 64 (bl u); rw [e]; simp
  have JC:(aI 64 (bl u)).length≤1000001:=by have:=gC 64 (bl u) []; rw [an] at this; unfold aI; omega
  obtain ⟨n1,zv⟩ : ∃ n,n=(aI 64 (bl u)).length:=⟨_,rfl⟩
  rw [← zv] at GF y9 JB JC
  clear zv
  have xY:(aV u 64).size≤u.size:=by unfold aV; rw [← an,bo]; have:=lJ 64 (bl u); rw [an] at this; omega
  have JD:u.size=x.size - p.size:=by rw [hu,← an,bI,List.length_drop,List.length_take,an]; omega
  have Od:Hid (p=t++⟨#[32]⟩):=hp
  subst hp
  rw [MF] at MG d1 d2 JD hu
  have HU:=jZ hu; clear hu
  have Oe:=jZ JD; clear JD
  have i1:(t.size:Int)+1≤(x.size:Int):=oM
  by_cases hat:(64:UInt8) ∈ bl u
  ·have hparts:=dd hat
   have xT:=pZ (c:=bl (aV u 64)) (r:=bl (bh u 64)) (s:=bl s) (k:=k) (by rw [← y6,hsplit]; rw [show bl (aV u 64)++64 :: bl (bh u 64)=bl u by unfold aV bh; rw [bo,bo]; exact hparts.symm]) (by unfold aV; rw [bo]; exact fG 64 _)
   have wR:=congrArg List.length hparts
   have Lh:(aV u 64).size=(cP 64 (bl u)).length:=by unfold aV; rw [← an,bo]
   simp only [List.length_append,List.length_cons,List.length_drop,an] at wR
   have Of:(aV u 64).size+1≤u.size:=oM
   have d3:(((aV u 64).size:Int) == (u.size:Int))=false:=by simp; omega
   have HR:Hid (u.extract ((aV u 64).size+1) u.size=bh u 64):=by
    unfold bh Hid; refine ee ?_
    rw [bI,List.take_of_length_le (by rw [an]; exact Nat.le_refl _),Lh]
   have Lb:(bh u 64).size≤1000000:=by unfold bh; rw [← an,bo,List.length_drop,an]; omega
   have HG:=jZ (fun W=>gP ⟨aV u 64,bh u 64⟩ W (by simp only; omega) (by simp only; omega))
   have AX:=jZ (fun W=>mX k ⟨aV u 64,bh u 64⟩ W hk (by simp only; omega) Lb)
   obtain ⟨ln,zM⟩ : ∃ ln:ByteArray,ln=⟨(bT k (bl (aV u 64)) (bl (bh u 64))).toArray⟩:=⟨_,rfl⟩
   simp only [← zM] at AX
   have Dc:bl ln=bT k (bl (aV u 64)) (bl (bh u 64)):=by rw [zM,bo]
   clear wR Lh hparts hat
   cases wP:dA.ok ⟨aV u 64,bh u 64⟩
   ·rw [wP] at HG
    have HD:Hid (ed k (bl s)=none):=by
     rw [Hid,xT,if_neg (fun h=>by rw [show dA.ok ⟨aV u 64,bh u 64⟩=eY (bl (aV u 64)) (bl (bh u 64)) from rfl,h.1] at wP; cases wP)]
    clear Aa hsplit Cz y6 xT wP zM Dc
    go_enter Tryz.func128,Tryz.ntmps128
    go_wp2_with fail
    generalize w.alloc (.cells #[wG ⟨#[]⟩,wG ⟨#[]⟩] 62)=W at b1 L1 ⊢
    generalize hg:w.heap.size=g at L1 ⊢
    refine (HN.out _).mono ?_
    rintro e w2 ⟨rfl,wM⟩
    go_wp2_with fail
    refine (Db.out _).mono ?_
    rintro e w3 ⟨A3,c3,rfl,xp,wZ⟩
    obtain ⟨g3,rfl,x0,hg3,hg3'⟩:=xJ.out _ _ _ _ xp
    have yk:=av wM wZ
    have L3:=L1.below yk L1.lt
    clear xp
    go_wp2_with fail
    rw [← HU.out]
    refine (GF.out _).mono ?_
    rintro e w4 ⟨A4,c4,rfl,xm,wV⟩
    obtain ⟨g4,rfl,x1,xC,hg4'⟩:=y9.out _ _ _ _ xm
    have hb14:=av yk wV
    have L4:=L3.below wV L3.lt
    clear xm
    have Lj:((aV u 64).size:Int)+1≤(u.size:Int):=oM
    go_wp2_with fail
    rw [HR.out]
    have N5:=ai.new w4 62 #[wG (aV u 64),wG (bh u 64)]
    have L5:=L4.alloc (.cells #[wG (aV u 64),wG (bh u 64)] 62)
    have hb5:=(av b1 hb14).trans ((Below.refl w.heap.size w4).alloc (by have:=(av b1 hb14).size; omega) (.cells #[wG (aV u 64),wG (bh u 64)] 62))
    generalize w4.alloc (.cells #[wG (aV u 64),wG (bh u 64)] 62)=W5 at N5 L5 hb5 ⊢
    have wT:g ≠ w4.heap.size:=by have:=L4.lt; omega
    generalize w4.heap.size=ge at N5 wT ⊢
    have BW:w.heap.size≤g:=oM
    clear L1 L3 L4 x0 x1
    refine gS (fun W9=>(∃ a b,ai W9 g 62 [wG a,wG b])∧ai W9 ge 62 [wG (aV u 64),wG (bh u 64)]∧Below w.heap.size w W9) (fun W8 W9=>ai W8 g 62 [wG (aV u 64),wG (bh u 64)]→ai W9 g 62 [wG (aV u 64),wG (bh u 64)]) kZ kZ kZ ⟨⟨_,_,L5.below jB.drew L5.lt⟩,N5.below jB.drew N5.lt,hb5.drew⟩ ?_
    simp only [ax,Act.put,sA,gs0,gs1,Nat.zero_add,Nat.reduceAdd]
    refine aL (.agg #[wG (aV u 64),wG (bh u 64)]) (fun vs w9 wI hB K9 wJ=>?_) ?_
    ·obtain ⟨⟨a9,b9,wK⟩,xd,xh⟩:=wI
     have q0:w9.cell? ⟨ge,0,none⟩=some (wG (aV u 64)):=xd.cell 0
     have q1:w9.cell? ⟨ge,1,none⟩=some (wG (bh u 64)):=xd.cell 1
     go_simp
     exact wJ _ _ rfl ⟨⟨a9,b9,wK⟩,xd,xh⟩ id
    refine aL (.agg #[wG (aV u 64),wG (bh u 64)]) (fun vs w9 wI hB K9 wJ=>?_) ?_
    ·obtain ⟨⟨a9,b9,wK⟩,xd,xh⟩:=wI
     have q0:w9.cell? ⟨ge,0,none⟩=some (wG (aV u 64)):=xd.cell 0
     have q1:w9.cell? ⟨ge,1,none⟩=some (wG (bh u 64)):=xd.cell 1
     go_simp
     exact wJ _ _ rfl ⟨⟨a9,b9,wK⟩,xd,xh⟩ id
    refine aL (.bool false) (fun vs w9 wI hB K9 wJ=>?_) ?_
    ·have Ae:=hB 1 _ kZ rfl
     simp only [Ae] at wJ ⊢
     obtain ⟨⟨a9,b9,wK⟩,xd,xh⟩:=wI
     go_simp
     refine (HG.out _).mono ?_
     rintro e8 w8 ⟨rfl,wL⟩
     exact wJ _ _ rfl ⟨⟨a9,b9,wK.below wL wK.lt⟩,xd.below wL xd.lt,xh.trans (wL.mono xh.size)⟩ (fun h=>h.below wL h.lt)
    refine aL (.bool false) (fun vs w9 wI hB K9 wJ=>?_) ?_
    ·have Af:=hB 2 _ kZ rfl
     simp only [Af] at wJ ⊢
     obtain ⟨⟨a9,b9,wK⟩,xd,xh⟩:=wI
     go_simp
     exact wJ _ _ rfl ⟨⟨a9,b9,wK⟩,xd,xh⟩ id
    refine aL (undef) (fun vs w9 wI hB K9 wJ=>?_) ?_
    ·have xX:=hB 3 _ kZ rfl
     simp only [xX] at wJ ⊢
     obtain ⟨⟨a9,b9,wK⟩,xd,xh⟩:=wI
     go_simp
     exact wJ _ _ rfl ⟨⟨a9,b9,wK⟩,xd,xh⟩ id
    refine aL (undef) (fun vs w9 wI hB K9 wJ=>?_) ?_
    ·have xX:=hB 3 _ kZ rfl
     simp only [xX] at wJ ⊢
     obtain ⟨⟨a9,b9,wK⟩,xd,xh⟩:=wI
     go_simp
     exact wJ _ _ rfl ⟨⟨a9,b9,wK⟩,xd,xh⟩ id
    refine aL (undef) (fun vs w9 wI hB K9 wJ=>?_) ?_
    ·have xX:=hB 3 _ kZ rfl
     simp only [xX] at wJ ⊢
     obtain ⟨⟨a9,b9,wK⟩,xd,xh⟩:=wI
     go_simp
     exact wJ _ _ rfl ⟨⟨a9,b9,wK⟩,xd,xh⟩ id
    refine aL (undef) (fun vs w9 wI hB K9 wJ=>?_) ?_
    ·have xX:=hB 3 _ kZ rfl
     simp only [xX] at wJ ⊢
     obtain ⟨⟨a9,b9,wK⟩,xd,xh⟩:=wI
     go_simp
     exact wJ _ _ rfl ⟨⟨a9,b9,wK⟩,xd,xh⟩ id
    refine aL (undef) (fun vs w9 wI hB K9 wJ=>?_) ?_
    ·have xX:=hB 3 _ kZ rfl
     simp only [xX] at wJ ⊢
     obtain ⟨⟨a9,b9,wK⟩,xd,xh⟩:=wI
     go_simp
     exact wJ _ _ rfl ⟨⟨a9,b9,wK⟩,xd,xh⟩ id
    refine aL (undef) (fun vs w9 wI hB K9 wJ=>?_) ?_
    ·have xX:=hB 3 _ kZ rfl
     simp only [xX] at wJ ⊢
     obtain ⟨⟨a9,b9,wK⟩,xd,xh⟩:=wI
     go_simp
     exact wJ _ _ rfl ⟨⟨a9,b9,wK⟩,xd,xh⟩ id
    refine aL (.bool false) (fun vs w9 wI hB K9 wJ=>?_) ?_
    ·have xX:=hB 3 _ kZ rfl
     simp only [xX] at wJ ⊢
     obtain ⟨⟨a9,b9,wK⟩,xd,xh⟩:=wI
     go_simp
     exact wJ _ _ rfl ⟨⟨a9,b9,wK⟩,xd,xh⟩ id
    refine jr (fun _ W9=>ai W9 g 62 [wG (aV u 64),wG (bh u 64)]) (fun _ _ _ h hT=>hT h) (fun vs w9 wI hB K9 wJ=>?_) ?_
    ·have As:=hB 0 _ kZ rfl
     simp only [As] at wJ ⊢
     obtain ⟨⟨a9,b9,wK⟩,xd,xh⟩:=wI
     have q0:w9.cell? ⟨g,0,none⟩=some (wG a9):=wK.cell 0
     have q1:w9.cell? ⟨g,1,none⟩=some (wG b9):=wK.cell 1
     obtain ⟨f0,f1⟩:=frz2 wK
     have hS:ai ((w9.setCell ⟨g,0,none⟩ (wG (aV u 64))).setCell ⟨g,1,none⟩ (wG (bh u 64))) g 62 [wG (aV u 64),wG (bh u 64)]:=(wK.set 0 (wG (aV u 64))).set 1 (wG (bh u 64))
     have hN:ai ((w9.setCell ⟨g,0,none⟩ (wG (aV u 64))).setCell ⟨g,1,none⟩ (wG (bh u 64))) ge 62 [wG (aV u 64),wG (bh u 64)]:=(xd.other (p:=⟨g,0,none⟩) (Ne.symm wT) _).other (p:=⟨g,1,none⟩) (Ne.symm wT) _
     have hW:=(xh.setCell (p:=⟨g,0,none⟩) BW (wG (aV u 64))).setCell (p:=⟨g,1,none⟩) BW (wG (bh u 64))
     go_simp
     exact wJ _ undef _ rfl hS ⟨⟨_,_,hS⟩,hN,hW⟩ (fun _=>hS)
    refine aL (.bool false) (fun vs w9 wI hB K9 wJ=>?_) ?_
    ·have hd10:=hB 10 _ kZ rfl
     simp only [hd10] at wJ ⊢
     obtain ⟨⟨a9,b9,wK⟩,xd,xh⟩:=wI
     go_simp
     exact wJ _ _ rfl ⟨⟨a9,b9,wK⟩,xd,xh⟩ id
    refine jX fun vs W9 wI hB=>?_
    have hv12:=hB 12 _ rfl
    have hS:=hB 11 _ rfl
    obtain ⟨_,_,xh⟩:=wI
    simp only [hv12]
    obtain ⟨c0,c1⟩:=cells2 hS
    clear hS hB hv12
    go_wp2_with fail
    refine bodyPost_ret (v:=.tuple #[.agg #[wG (aV u 64),wG (bh u 64)],.bool false]) (by simp [results,Tryz.results128,go_sem, *]) rfl ⟨aV u 64,bh u 64,false,rfl,.inr ⟨rfl,HD.out⟩,xh⟩
   ·rw [wP] at HG
    by_cases zE:bT k (bl (aV u 64)) (bl (bh u 64))=bl s++[10]
    ·have HD:Hid (ed k (bl s)=some (bl (aV u 64),bl (bh u 64))):=by rw [Hid,xT,if_pos ⟨wP,zE⟩]
     have JE:Hid ((ln.toList == (s++⟨#[10]⟩ : ByteArray).toList)=true):=by rw [Hid,lN]; exact jD (by rw [Dc,zE,cE]; rfl)
     clear Aa hsplit Cz y6 xT wP zE zM Dc
     go_enter Tryz.func128,Tryz.ntmps128
     go_wp2_with fail
     generalize w.alloc (.cells #[wG ⟨#[]⟩,wG ⟨#[]⟩] 62)=W at b1 L1 ⊢
     generalize hg:w.heap.size=g at L1 ⊢
     refine (HN.out _).mono ?_
     rintro e w2 ⟨rfl,wM⟩
     go_wp2_with fail
     refine (Db.out _).mono ?_
     rintro e w3 ⟨A3,c3,rfl,xp,wZ⟩
     obtain ⟨g3,rfl,x0,hg3,hg3'⟩:=xJ.out _ _ _ _ xp
     have yk:=av wM wZ
     have L3:=L1.below yk L1.lt
     clear xp
     go_wp2_with fail
     rw [← HU.out]
     refine (GF.out _).mono ?_
     rintro e w4 ⟨A4,c4,rfl,xm,wV⟩
     obtain ⟨g4,rfl,x1,xC,hg4'⟩:=y9.out _ _ _ _ xm
     have hb14:=av yk wV
     have L4:=L3.below wV L3.lt
     clear xm
     have Lj:((aV u 64).size:Int)+1≤(u.size:Int):=oM
     go_wp2_with fail
     rw [HR.out]
     have N5:=ai.new w4 62 #[wG (aV u 64),wG (bh u 64)]
     have L5:=L4.alloc (.cells #[wG (aV u 64),wG (bh u 64)] 62)
     have hb5:=(av b1 hb14).trans ((Below.refl w.heap.size w4).alloc (by have:=(av b1 hb14).size; omega) (.cells #[wG (aV u 64),wG (bh u 64)] 62))
     generalize w4.alloc (.cells #[wG (aV u 64),wG (bh u 64)] 62)=W5 at N5 L5 hb5 ⊢
     have wT:g ≠ w4.heap.size:=by have:=L4.lt; omega
     generalize w4.heap.size=ge at N5 wT ⊢
     have BW:w.heap.size≤g:=oM
     clear L1 L3 L4 x0 x1
     refine gS (fun W9=>(∃ a b,ai W9 g 62 [wG a,wG b])∧ai W9 ge 62 [wG (aV u 64),wG (bh u 64)]∧Below w.heap.size w W9) (fun W8 W9=>ai W8 g 62 [wG (aV u 64),wG (bh u 64)]→ai W9 g 62 [wG (aV u 64),wG (bh u 64)]) kZ kZ kZ ⟨⟨_,_,L5.below jB.drew L5.lt⟩,N5.below jB.drew N5.lt,hb5.drew⟩ ?_
     simp only [ax,Act.put,sA,gs0,gs1,Nat.zero_add,Nat.reduceAdd]
     refine aL (.agg #[wG (aV u 64),wG (bh u 64)]) (fun vs w9 wI hB K9 wJ=>?_) ?_
     ·obtain ⟨⟨a9,b9,wK⟩,xd,xh⟩:=wI
      have q0:w9.cell? ⟨ge,0,none⟩=some (wG (aV u 64)):=xd.cell 0
      have q1:w9.cell? ⟨ge,1,none⟩=some (wG (bh u 64)):=xd.cell 1
      go_simp
      exact wJ _ _ rfl ⟨⟨a9,b9,wK⟩,xd,xh⟩ id
     refine aL (.agg #[wG (aV u 64),wG (bh u 64)]) (fun vs w9 wI hB K9 wJ=>?_) ?_
     ·obtain ⟨⟨a9,b9,wK⟩,xd,xh⟩:=wI
      have q0:w9.cell? ⟨ge,0,none⟩=some (wG (aV u 64)):=xd.cell 0
      have q1:w9.cell? ⟨ge,1,none⟩=some (wG (bh u 64)):=xd.cell 1
      go_simp
      exact wJ _ _ rfl ⟨⟨a9,b9,wK⟩,xd,xh⟩ id
     refine aL (.bool true) (fun vs w9 wI hB K9 wJ=>?_) ?_
     ·have Ae:=hB 1 _ kZ rfl
      simp only [Ae] at wJ ⊢
      obtain ⟨⟨a9,b9,wK⟩,xd,xh⟩:=wI
      go_simp
      refine (HG.out _).mono ?_
      rintro e8 w8 ⟨rfl,wL⟩
      exact wJ _ _ rfl ⟨⟨a9,b9,wK.below wL wK.lt⟩,xd.below wL xd.lt,xh.trans (wL.mono xh.size)⟩ (fun h=>h.below wL h.lt)
     refine aL (.bool true) (fun vs w9 wI hB K9 wJ=>?_) ?_
     ·have Af:=hB 2 _ kZ rfl
      simp only [Af] at wJ ⊢
      obtain ⟨⟨a9,b9,wK⟩,xd,xh⟩:=wI
      go_simp
      exact wJ _ _ rfl ⟨⟨a9,b9,wK⟩,xd,xh⟩ id
     refine aL (O U (k:Int)) (fun vs w9 wI hB K9 wJ=>?_) ?_
     ·have xX:=hB 3 _ kZ rfl
      simp only [xX] at wJ ⊢
      obtain ⟨⟨a9,b9,wK⟩,xd,xh⟩:=wI
      go_simp
      exact wJ _ _ rfl ⟨⟨a9,b9,wK⟩,xd,xh⟩ id
     refine aL (.agg #[wG (aV u 64),wG (bh u 64)]) (fun vs w9 wI hB K9 wJ=>?_) ?_
     ·have xX:=hB 3 _ kZ rfl
      simp only [xX] at wJ ⊢
      obtain ⟨⟨a9,b9,wK⟩,xd,xh⟩:=wI
      have q0:w9.cell? ⟨ge,0,none⟩=some (wG (aV u 64)):=xd.cell 0
      have q1:w9.cell? ⟨ge,1,none⟩=some (wG (bh u 64)):=xd.cell 1
      go_simp
      exact wJ _ _ rfl ⟨⟨a9,b9,wK⟩,xd,xh⟩ id
     refine aL (wG ln) (fun vs w9 wI hB K9 wJ=>?_) ?_
     ·have xX:=hB 3 _ kZ rfl
      have EQ:=hB 4 _ kZ rfl
      have ER:=hB 5 _ kZ rfl
      simp only [xX,EQ,ER] at wJ ⊢
      obtain ⟨⟨a9,b9,wK⟩,xd,xh⟩:=wI
      go_simp
      refine (AX.out _).mono ?_
      rintro e8 w8 ⟨rfl,wL⟩
      exact wJ _ _ rfl ⟨⟨a9,b9,wK.below wL wK.lt⟩,xd.below wL xd.lt,xh.trans (wL.mono xh.size)⟩ (fun h=>h.below wL h.lt)
     refine aL (wG s) (fun vs w9 wI hB K9 wJ=>?_) ?_
     ·have xX:=hB 3 _ kZ rfl
      simp only [xX] at wJ ⊢
      obtain ⟨⟨a9,b9,wK⟩,xd,xh⟩:=wI
      go_simp
      exact wJ _ _ rfl ⟨⟨a9,b9,wK⟩,xd,xh⟩ id
     refine aL (wG (s++⟨#[10]⟩)) (fun vs w9 wI hB K9 wJ=>?_) ?_
     ·have xX:=hB 3 _ kZ rfl
      have ES:=hB 7 _ kZ rfl
      simp only [xX,ES] at wJ ⊢
      obtain ⟨⟨a9,b9,wK⟩,xd,xh⟩:=wI
      go_simp
      (first | (rw [if_neg oM]; go_simp) | skip)
      exact wJ _ _ rfl ⟨⟨a9,b9,wK⟩,xd,xh⟩ id
     refine aL (.bool true) (fun vs w9 wI hB K9 wJ=>?_) ?_
     ·have xX:=hB 3 _ kZ rfl
      have EU:=hB 6 _ kZ rfl
      have JF:=hB 8 _ kZ rfl
      simp only [xX,EU,JF] at wJ ⊢
      obtain ⟨⟨a9,b9,wK⟩,xd,xh⟩:=wI
      have hq:=JE.out
      go_simp
      exact wJ _ _ rfl ⟨⟨a9,b9,wK⟩,xd,xh⟩ id
     refine aL (.bool true) (fun vs w9 wI hB K9 wJ=>?_) ?_
     ·have xX:=hB 3 _ kZ rfl
      have JG:=hB 9 _ kZ rfl
      simp only [xX,JG] at wJ ⊢
      obtain ⟨⟨a9,b9,wK⟩,xd,xh⟩:=wI
      go_simp
      exact wJ _ _ rfl ⟨⟨a9,b9,wK⟩,xd,xh⟩ id
     refine jr (fun _ W9=>ai W9 g 62 [wG (aV u 64),wG (bh u 64)]) (fun _ _ _ h hT=>hT h) (fun vs w9 wI hB K9 wJ=>?_) ?_
     ·have As:=hB 0 _ kZ rfl
      simp only [As] at wJ ⊢
      obtain ⟨⟨a9,b9,wK⟩,xd,xh⟩:=wI
      have q0:w9.cell? ⟨g,0,none⟩=some (wG a9):=wK.cell 0
      have q1:w9.cell? ⟨g,1,none⟩=some (wG b9):=wK.cell 1
      obtain ⟨f0,f1⟩:=frz2 wK
      have hS:ai ((w9.setCell ⟨g,0,none⟩ (wG (aV u 64))).setCell ⟨g,1,none⟩ (wG (bh u 64))) g 62 [wG (aV u 64),wG (bh u 64)]:=(wK.set 0 (wG (aV u 64))).set 1 (wG (bh u 64))
      have hN:ai ((w9.setCell ⟨g,0,none⟩ (wG (aV u 64))).setCell ⟨g,1,none⟩ (wG (bh u 64))) ge 62 [wG (aV u 64),wG (bh u 64)]:=(xd.other (p:=⟨g,0,none⟩) (Ne.symm wT) _).other (p:=⟨g,1,none⟩) (Ne.symm wT) _
      have hW:=(xh.setCell (p:=⟨g,0,none⟩) BW (wG (aV u 64))).setCell (p:=⟨g,1,none⟩) BW (wG (bh u 64))
      go_simp
      exact wJ _ undef _ rfl hS ⟨⟨_,_,hS⟩,hN,hW⟩ (fun _=>hS)
     refine aL (.bool true) (fun vs w9 wI hB K9 wJ=>?_) ?_
     ·have hd10:=hB 10 _ kZ rfl
      simp only [hd10] at wJ ⊢
      obtain ⟨⟨a9,b9,wK⟩,xd,xh⟩:=wI
      go_simp
      exact wJ _ _ rfl ⟨⟨a9,b9,wK⟩,xd,xh⟩ id
     refine jX fun vs W9 wI hB=>?_
     have hv12:=hB 12 _ rfl
     have hS:=hB 11 _ rfl
     obtain ⟨_,_,xh⟩:=wI
     simp only [hv12]
     obtain ⟨c0,c1⟩:=cells2 hS
     clear hS hB hv12
     go_wp2_with fail
     refine bodyPost_ret (v:=.tuple #[.agg #[wG (aV u 64),wG (bh u 64)],.bool true]) (by simp [results,Tryz.results128,go_sem, *]) rfl ⟨aV u 64,bh u 64,true,rfl,.inl ⟨rfl,HD.out⟩,xh⟩
    ·have HD:Hid (ed k (bl s)=none):=by rw [Hid,xT,if_neg (fun h=>zE h.2)]
     have JE:Hid ((ln.toList == (s++⟨#[10]⟩ : ByteArray).toList)=false):=by rw [Hid,lN]; exact jE (fun h=>zE (by rw [← Dc,h,cE]; rfl))
     clear Aa hsplit Cz y6 xT wP zE zM Dc
     go_enter Tryz.func128,Tryz.ntmps128
     go_wp2_with fail
     generalize w.alloc (.cells #[wG ⟨#[]⟩,wG ⟨#[]⟩] 62)=W at b1 L1 ⊢
     generalize hg:w.heap.size=g at L1 ⊢
     refine (HN.out _).mono ?_
     rintro e w2 ⟨rfl,wM⟩
     go_wp2_with fail
     refine (Db.out _).mono ?_
     rintro e w3 ⟨A3,c3,rfl,xp,wZ⟩
     obtain ⟨g3,rfl,x0,hg3,hg3'⟩:=xJ.out _ _ _ _ xp
     have yk:=av wM wZ
     have L3:=L1.below yk L1.lt
     clear xp
     go_wp2_with fail
     rw [← HU.out]
     refine (GF.out _).mono ?_
     rintro e w4 ⟨A4,c4,rfl,xm,wV⟩
     obtain ⟨g4,rfl,x1,xC,hg4'⟩:=y9.out _ _ _ _ xm
     have hb14:=av yk wV
     have L4:=L3.below wV L3.lt
     clear xm
     have Lj:((aV u 64).size:Int)+1≤(u.size:Int):=oM
     go_wp2_with fail
     rw [HR.out]
     have N5:=ai.new w4 62 #[wG (aV u 64),wG (bh u 64)]
     have L5:=L4.alloc (.cells #[wG (aV u 64),wG (bh u 64)] 62)
     have hb5:=(av b1 hb14).trans ((Below.refl w.heap.size w4).alloc (by have:=(av b1 hb14).size; omega) (.cells #[wG (aV u 64),wG (bh u 64)] 62))
     generalize w4.alloc (.cells #[wG (aV u 64),wG (bh u 64)] 62)=W5 at N5 L5 hb5 ⊢
     have wT:g ≠ w4.heap.size:=by have:=L4.lt; omega
     generalize w4.heap.size=ge at N5 wT ⊢
     have BW:w.heap.size≤g:=oM
     clear L1 L3 L4 x0 x1
     refine gS (fun W9=>(∃ a b,ai W9 g 62 [wG a,wG b])∧ai W9 ge 62 [wG (aV u 64),wG (bh u 64)]∧Below w.heap.size w W9) (fun W8 W9=>ai W8 g 62 [wG (aV u 64),wG (bh u 64)]→ai W9 g 62 [wG (aV u 64),wG (bh u 64)]) kZ kZ kZ ⟨⟨_,_,L5.below jB.drew L5.lt⟩,N5.below jB.drew N5.lt,hb5.drew⟩ ?_
     simp only [ax,Act.put,sA,gs0,gs1,Nat.zero_add,Nat.reduceAdd]
     refine aL (.agg #[wG (aV u 64),wG (bh u 64)]) (fun vs w9 wI hB K9 wJ=>?_) ?_
     ·obtain ⟨⟨a9,b9,wK⟩,xd,xh⟩:=wI
      have q0:w9.cell? ⟨ge,0,none⟩=some (wG (aV u 64)):=xd.cell 0
      have q1:w9.cell? ⟨ge,1,none⟩=some (wG (bh u 64)):=xd.cell 1
      go_simp
      exact wJ _ _ rfl ⟨⟨a9,b9,wK⟩,xd,xh⟩ id
     refine aL (.agg #[wG (aV u 64),wG (bh u 64)]) (fun vs w9 wI hB K9 wJ=>?_) ?_
     ·obtain ⟨⟨a9,b9,wK⟩,xd,xh⟩:=wI
      have q0:w9.cell? ⟨ge,0,none⟩=some (wG (aV u 64)):=xd.cell 0
      have q1:w9.cell? ⟨ge,1,none⟩=some (wG (bh u 64)):=xd.cell 1
      go_simp
      exact wJ _ _ rfl ⟨⟨a9,b9,wK⟩,xd,xh⟩ id
     refine aL (.bool true) (fun vs w9 wI hB K9 wJ=>?_) ?_
     ·have Ae:=hB 1 _ kZ rfl
      simp only [Ae] at wJ ⊢
      obtain ⟨⟨a9,b9,wK⟩,xd,xh⟩:=wI
      go_simp
      refine (HG.out _).mono ?_
      rintro e8 w8 ⟨rfl,wL⟩
      exact wJ _ _ rfl ⟨⟨a9,b9,wK.below wL wK.lt⟩,xd.below wL xd.lt,xh.trans (wL.mono xh.size)⟩ (fun h=>h.below wL h.lt)
     refine aL (.bool true) (fun vs w9 wI hB K9 wJ=>?_) ?_
     ·have Af:=hB 2 _ kZ rfl
      simp only [Af] at wJ ⊢
      obtain ⟨⟨a9,b9,wK⟩,xd,xh⟩:=wI
      go_simp
      exact wJ _ _ rfl ⟨⟨a9,b9,wK⟩,xd,xh⟩ id
     refine aL (O U (k:Int)) (fun vs w9 wI hB K9 wJ=>?_) ?_
     ·have xX:=hB 3 _ kZ rfl
      simp only [xX] at wJ ⊢
      obtain ⟨⟨a9,b9,wK⟩,xd,xh⟩:=wI
      go_simp
      exact wJ _ _ rfl ⟨⟨a9,b9,wK⟩,xd,xh⟩ id
     refine aL (.agg #[wG (aV u 64),wG (bh u 64)]) (fun vs w9 wI hB K9 wJ=>?_) ?_
     ·have xX:=hB 3 _ kZ rfl
      simp only [xX] at wJ ⊢
      obtain ⟨⟨a9,b9,wK⟩,xd,xh⟩:=wI
      have q0:w9.cell? ⟨ge,0,none⟩=some (wG (aV u 64)):=xd.cell 0
      have q1:w9.cell? ⟨ge,1,none⟩=some (wG (bh u 64)):=xd.cell 1
      go_simp
      exact wJ _ _ rfl ⟨⟨a9,b9,wK⟩,xd,xh⟩ id
     refine aL (wG ln) (fun vs w9 wI hB K9 wJ=>?_) ?_
     ·have xX:=hB 3 _ kZ rfl
      have EQ:=hB 4 _ kZ rfl
      have ER:=hB 5 _ kZ rfl
      simp only [xX,EQ,ER] at wJ ⊢
      obtain ⟨⟨a9,b9,wK⟩,xd,xh⟩:=wI
      go_simp
      refine (AX.out _).mono ?_
      rintro e8 w8 ⟨rfl,wL⟩
      exact wJ _ _ rfl ⟨⟨a9,b9,wK.below wL wK.lt⟩,xd.below wL xd.lt,xh.trans (wL.mono xh.size)⟩ (fun h=>h.below wL h.lt)
     refine aL (wG s) (fun vs w9 wI hB K9 wJ=>?_) ?_
     ·have xX:=hB 3 _ kZ rfl
      simp only [xX] at wJ ⊢
      obtain ⟨⟨a9,b9,wK⟩,xd,xh⟩:=wI
      go_simp
      exact wJ _ _ rfl ⟨⟨a9,b9,wK⟩,xd,xh⟩ id
     refine aL (wG (s++⟨#[10]⟩)) (fun vs w9 wI hB K9 wJ=>?_) ?_
     ·have xX:=hB 3 _ kZ rfl
      have ES:=hB 7 _ kZ rfl
      simp only [xX,ES] at wJ ⊢
      obtain ⟨⟨a9,b9,wK⟩,xd,xh⟩:=wI
      go_simp
      (first | (rw [if_neg oM]; go_simp) | skip)
      exact wJ _ _ rfl ⟨⟨a9,b9,wK⟩,xd,xh⟩ id
     refine aL (.bool false) (fun vs w9 wI hB K9 wJ=>?_) ?_
     ·have xX:=hB 3 _ kZ rfl
      have EU:=hB 6 _ kZ rfl
      have JF:=hB 8 _ kZ rfl
      simp only [xX,EU,JF] at wJ ⊢
      obtain ⟨⟨a9,b9,wK⟩,xd,xh⟩:=wI
      have hq:=JE.out
      go_simp
      exact wJ _ _ rfl ⟨⟨a9,b9,wK⟩,xd,xh⟩ id
     refine aL (.bool false) (fun vs w9 wI hB K9 wJ=>?_) ?_
     ·have xX:=hB 3 _ kZ rfl
      have JG:=hB 9 _ kZ rfl
      simp only [xX,JG] at wJ ⊢
      obtain ⟨⟨a9,b9,wK⟩,xd,xh⟩:=wI
      go_simp
      exact wJ _ _ rfl ⟨⟨a9,b9,wK⟩,xd,xh⟩ id
     refine jr (fun _ W9=>ai W9 g 62 [wG (aV u 64),wG (bh u 64)]) (fun _ _ _ h hT=>hT h) (fun vs w9 wI hB K9 wJ=>?_) ?_
     ·have As:=hB 0 _ kZ rfl
      simp only [As] at wJ ⊢
      obtain ⟨⟨a9,b9,wK⟩,xd,xh⟩:=wI
      have q0:w9.cell? ⟨g,0,none⟩=some (wG a9):=wK.cell 0
      have q1:w9.cell? ⟨g,1,none⟩=some (wG b9):=wK.cell 1
      obtain ⟨f0,f1⟩:=frz2 wK
      have hS:ai ((w9.setCell ⟨g,0,none⟩ (wG (aV u 64))).setCell ⟨g,1,none⟩ (wG (bh u 64))) g 62 [wG (aV u 64),wG (bh u 64)]:=(wK.set 0 (wG (aV u 64))).set 1 (wG (bh u 64))
      have hN:ai ((w9.setCell ⟨g,0,none⟩ (wG (aV u 64))).setCell ⟨g,1,none⟩ (wG (bh u 64))) ge 62 [wG (aV u 64),wG (bh u 64)]:=(xd.other (p:=⟨g,0,none⟩) (Ne.symm wT) _).other (p:=⟨g,1,none⟩) (Ne.symm wT) _
      have hW:=(xh.setCell (p:=⟨g,0,none⟩) BW (wG (aV u 64))).setCell (p:=⟨g,1,none⟩) BW (wG (bh u 64))
      go_simp
      exact wJ _ undef _ rfl hS ⟨⟨_,_,hS⟩,hN,hW⟩ (fun _=>hS)
     refine aL (.bool false) (fun vs w9 wI hB K9 wJ=>?_) ?_
     ·have hd10:=hB 10 _ kZ rfl
      simp only [hd10] at wJ ⊢
      obtain ⟨⟨a9,b9,wK⟩,xd,xh⟩:=wI
      go_simp
      exact wJ _ _ rfl ⟨⟨a9,b9,wK⟩,xd,xh⟩ id
     refine jX fun vs W9 wI hB=>?_
     have hv12:=hB 12 _ rfl
     have hS:=hB 11 _ rfl
     obtain ⟨_,_,xh⟩:=wI
     simp only [hv12]
     obtain ⟨c0,c1⟩:=cells2 hS
     clear hS hB hv12
     go_wp2_with fail
     refine bodyPost_ret (v:=.tuple #[.agg #[wG (aV u 64),wG (bh u 64)],.bool false]) (by simp [results,Tryz.results128,go_sem, *]) rfl ⟨aV u 64,bh u 64,false,rfl,.inr ⟨rfl,HD.out⟩,xh⟩
  ·have HD:Hid (ed k (bl s)=none):=qY (by rw [← y6]; exact hsplit) hat
   have Lk:(aV u 64).size=u.size:=by unfold aV; rw [← an,bo,← an]; exact ua.2 hat
   have d3:(((aV u 64).size:Int) == (u.size:Int))=true:=by rw [Lk]; simp
   clear Aa hsplit Cz hat y6 Lk
   go_enter Tryz.func128,Tryz.ntmps128
   go_wp2_with fail
   generalize w.alloc (.cells #[wG ⟨#[]⟩,wG ⟨#[]⟩] 62)=W at b1 L1 ⊢
   generalize hg:w.heap.size=g at L1 ⊢
   refine (HN.out _).mono ?_
   rintro e w2 ⟨rfl,wM⟩
   go_wp2_with fail
   refine (Db.out _).mono ?_
   rintro e w3 ⟨A3,c3,rfl,xp,wZ⟩
   obtain ⟨g3,rfl,x0,hg3,hg3'⟩:=xJ.out _ _ _ _ xp
   have yk:=av wM wZ
   have L3:=L1.below yk L1.lt
   clear xp
   go_wp2_with fail
   rw [← HU.out]
   refine (GF.out _).mono ?_
   rintro e w4 ⟨A4,c4,rfl,xm,wV⟩
   obtain ⟨g4,rfl,x1,xC,hg4'⟩:=y9.out _ _ _ _ xm
   have hb14:=av yk wV
   have L4:=L3.below wV L3.lt
   clear xm
   have c0:=L4.cell 0
   have c1:=L4.cell 1
   obtain ⟨f0,f1⟩:=frz2 L4
   have DE:=L4.lt
   simp only [gz0,gz1] at c0 c1
   clear L1 L4
   go_wp2_with fail
   refine bodyPost_ret (v:=.tuple #[.agg #[wG ⟨#[]⟩,wG ⟨#[]⟩],.bool false]) (by simp [results,Tryz.results128,go_sem, *]) rfl ⟨⟨#[]⟩,⟨#[]⟩,false,rfl,.inr ⟨rfl,HD.out⟩, ?_⟩
   rw [← hg] at *
   exact (av b1 hb14).trans (by repeat (first | exact Below.refl _ _ | refine Below.alloc ?_ (by simp; have:=b1.size; have:=hb14.size; omega) _ | refine Below.setCell ?_ sP _))
 ·have HD:Hid (ed k (bl s)=none):=pY (by rw [← y6]; exact Aa)
  by_cases xQ:x.size < p.size
  ·have d1:decide ((x.size:Int) < (t.size:Int)+1)=true:=jD oM
   clear Aa y6 hp xQ
   go_enter Tryz.func128,Tryz.ntmps128
   go_wp2_with fail
   generalize w.alloc (.cells #[wG ⟨#[]⟩,wG ⟨#[]⟩] 62)=W at b1 L1 ⊢
   generalize hg:w.heap.size=g at L1 ⊢
   refine (HN.out _).mono ?_
   rintro e w2 ⟨rfl,wM⟩
   go_wp2_with fail
   refine (Db.out _).mono ?_
   rintro e w3 ⟨A3,c3,rfl,xp,wZ⟩
   obtain ⟨g3,rfl,x0,hg3,hg3'⟩:=xJ.out _ _ _ _ xp
   have yk:=av wM wZ
   have L3:=L1.below yk L1.lt
   clear xp
   have c0:=L3.cell 0
   have c1:=L3.cell 1
   obtain ⟨f0,f1⟩:=frz2 L3
   have DE:=L3.lt
   simp only [gz0,gz1] at c0 c1
   clear L1 L3
   go_wp2_with fail
   refine bodyPost_ret (v:=.tuple #[.agg #[wG ⟨#[]⟩,wG ⟨#[]⟩],.bool false]) (by simp [results,Tryz.results128,go_sem, *]) rfl ⟨⟨#[]⟩,⟨#[]⟩,false,rfl,.inr ⟨rfl,HD.out⟩, ?_⟩
   rw [← hg] at *
   exact (av b1 yk).trans (by repeat (first | exact Below.refl _ _ | refine Below.alloc ?_ (by simp; have:=b1.size; have:=yk.size; omega) _ | refine Below.setCell ?_ sP _))
  ·have d1:decide ((x.size:Int) < (t.size:Int)+1)=false:=jE oM
   have d2:((x.extract 0 (t.size+1)).toList == (t++⟨#[32]⟩).toList)=false:=by
    rw [lN]; refine jE fun e=>Aa ?_
    rw [Bq.out,bI,List.drop_zero] at e
    rw [← e]; exact List.take_prefix _ _
   have i1:(t.size:Int)+1≤(x.size:Int):=oM
   clear Aa y6 hp xQ
   go_enter Tryz.func128,Tryz.ntmps128
   go_wp2_with fail
   generalize w.alloc (.cells #[wG ⟨#[]⟩,wG ⟨#[]⟩] 62)=W at b1 L1 ⊢
   generalize hg:w.heap.size=g at L1 ⊢
   refine (HN.out _).mono ?_
   rintro e w2 ⟨rfl,wM⟩
   go_wp2_with fail
   refine (Db.out _).mono ?_
   rintro e w3 ⟨A3,c3,rfl,xp,wZ⟩
   obtain ⟨g3,rfl,x0,hg3,hg3'⟩:=xJ.out _ _ _ _ xp
   have yk:=av wM wZ
   have L3:=L1.below yk L1.lt
   clear xp
   have c0:=L3.cell 0
   have c1:=L3.cell 1
   obtain ⟨f0,f1⟩:=frz2 L3
   have DE:=L3.lt
   simp only [gz0,gz1] at c0 c1
   clear L1 L3
   go_wp2_with fail
   refine bodyPost_ret (v:=.tuple #[.agg #[wG ⟨#[]⟩,wG ⟨#[]⟩],.bool false]) (by simp [results,Tryz.results128,go_sem, *]) rfl ⟨⟨#[]⟩,⟨#[]⟩,false,rfl,.inr ⟨rfl,HD.out⟩, ?_⟩
   rw [← hg] at *
   exact (av b1 yk).trans (by repeat (first | exact Below.refl _ _ | refine Below.alloc ?_ (by simp; have:=b1.size; have:=yk.size; omega) _ | refine Below.setCell ?_ sP _))
def ie (s:ByteArray) (w:World) (e:Ending) (w' : World):Prop:=∃ A c m,e=.returned (.tuple #[.slice A m.length c,.int .i64 (cr (aG 60 0 (bl s)):Nat)])∧dX (aG 60 0 (bl s)) m ∧
 w'.ownsRow w.heap.size 62 2 (.slice A m.length c) m.length (m.flatMap dA.enc)∧Below w.heap.size w w'
theorem uh (x:ByteArray) (b:UInt8) (n:Nat) (hn:n=(aI b (bl x)).length):Hid (∀ (W:World) (B:Nat) (A:Option Addr) (c:Nat),W.ownsRow B 9 1 (.slice A n c) n (dP (aI b (bl x)))→∃ g,A=some ⟨g,0,none⟩∧W.cell? ⟨g,0,none⟩=some (.string (aV x b))∧B≤g∧g < W.heap.size):=fun W B A c h=>by
 subst hn; exact kl h
set_option maxRecDepth 100000 in
theorem km (s:ByteArray) (w:World) (hs:s.size≤1000000) :
  Calls wH 77 #[.string s] w (ie s w):=by
 have b0:=bZ w (.cells #[] 62)
 have O0:Hid ((w.alloc (.cells #[] 62)).ownsRow w.heap.size 62 2 (.slice (some ⟨w.heap.size,0,none⟩) 0 0) 0 (([] : List dA).flatMap dA.enc)):=dw (ai.new w 62 #[]) nR
 go_enter Tryz.func77,Tryz.ntmps77
 go_wp2
 have HZ:Hid (aG 60 0 (bl s) = []++aG (60 - 0) 0 ((bl s).drop 0)):=rfl
 go_loopw [4,5,6,7,8] (fun r at' _ _ _ wr=>∃ (a:Nat) (A:Option Addr) (c:Nat) (m:List dA) (acc:List ((List UInt8 × List UInt8) × Nat)),m.length≤60∧a≤s.size∧r=.slice A m.length c∧at'=.int .i64 a∧(∃ q:ap w.heap.size w,wr=q.val) ∧
  Hid (dX acc m)∧Hid (cr acc=a)∧Hid (aG 60 0 (bl s)=acc++aG (60 - m.length) m.length ((bl s).drop a))∧Hid (wr.ownsRow w.heap.size 62 2 (.slice A m.length c) m.length (m.flatMap dA.enc))) (fun r _ _ _ _ _=>60 - lenOf r)
 case atStart=>exact ⟨0,some ⟨w.heap.size,0,none⟩,0,[],[],sP,Nat.zero_le _,rfl,rfl,⟨⟨_,b0⟩,rfl⟩,rfl,rfl,HZ,O0⟩
 case round =>
  obtain ⟨a,A,c,m,acc,hm,ha,rfl,rfl,⟨q,rfl⟩,HA,HL,HF,HR⟩:=hrel
  have DONE:aG (60 - m.length) m.length ((bl s).drop a) = []→∀ W',Below q.val.heap.size q.val W'→ie s w (.returned (.tuple #[.slice A m.length c,.int .i64 (a:Nat)])) W':=fun h W' hb=>by
   have h1:=HF.out
   rw [h,List.append_nil] at h1
   exact ⟨A,c,m,by rw [h1,HL.out],by rw [h1]; exact HA.out,ac HR.out hb,(q.go nR hb).below⟩
  by_cases wQ:a < s.size
  ·by_cases hm60:m.length < 60
   ·obtain ⟨n,hn⟩ : ∃ n,60 - m.length=n+1:=⟨59 - m.length,oM⟩
    obtain ⟨x,hx⟩ : ∃ x:ByteArray,x=s.extract a s.size:=⟨_,rfl⟩
    have y6:bl x=(bl s).drop a:=by rw [hx,bI,List.take_of_length_le (by rw [an]; exact Nat.le_refl _)]
    have BJ:x.size≤1000000:=by rw [← an,y6,List.length_drop,an]; omega
    have Db:Hid (∀ W,Calls wH 58 #[.string (s.extract a s.size),.int .u8 10] W fun e w'=>∃ A c,e=.returned (.slice A (aI 10 (bl x)).length c)∧w'.ownsRow W.heap.size 9 1 (.slice A (aI 10 (bl x)).length c) (aI 10 (bl x)).length (dP (aI 10 (bl x)))∧Below W.heap.size W w'):=fun W=>by
     rw [← hx]; exact iN x 10 W oM
    have In:(aV x 10).size≤1000000:=by unfold aV; rw [← an,bo]; have:=lJ 10 (bl x); rw [an] at this; omega
    have FL:bl (aV x 10)=cP 10 (bl x):=by unfold aV; rw [bo]
    have GK:(aV x 10).size=(cP 10 (bl x)).length:=by rw [← an,FL]
    obtain ⟨ps,zL,De⟩:=gD 10 (bl x)
    have wR:(aI 10 (bl x)).length=ps.length+1:=by rw [zL]; rfl
    have Ln:(aI 10 (bl x)).length≤1000001:=by have:=gC 10 (bl x) []; rw [an] at this; unfold aI; omega
    obtain ⟨n0,yK⟩ : ∃ n,n=(aI 10 (bl x)).length:=⟨_,rfl⟩
    have xJ:=uh x 10 n0 yK
    rw [← yK] at Db wR Ln
    have GH:=jZ (fun W=>rh m.length (aV x 10) W oM In)
    rw [hn] at DONE HF
    rw [← y6] at DONE HF
    have i1:(a:Int)≤(s.size:Int):=oM
    by_cases h1:(10:UInt8) ∈ bl x
    ·have Df:2≤n0:=by
      rcases ps with _ | ⟨p,ps⟩
      ·exact absurd h1 (De.1 rfl)
      ·simp at wR; omega
     have hp:=congrArg List.length (dd h1)
     have zD:(bl x).length=s.size - a:=by rw [y6,List.length_drop,an]
     simp only [List.length_append,List.length_cons,List.length_drop,zD,← GK] at hp
     have Ll:a+(aV x 10).size+1≤s.size:=oM
     obtain ⟨y,hy⟩ : ∃ y:ByteArray,y=aV x 10:=⟨_,rfl⟩
     rw [← hy] at FL GK In GH xJ Ll
     have EV:Hid (ed m.length (bl y)=none→∀ W',Below q.val.heap.size q.val W'→ie s w (.returned (.tuple #[.slice A m.length c,.int .i64 (a:Nat)])) W'):=fun h=>DONE (dJ (by rw [← FL]; exact h))
     have Dd:Hid (∀ ra rb,ed m.length (bl y)=some (ra,rb)→aG 60 0 (bl s)=(acc++[((ra,rb),y.size+1)])++aG (60 - (m.length+1)) (m.length+1) ((bl s).drop (a+(y.size+1)))):=fun ra rb h=>by
      have e1:=cu (n:=n) h1 (by rw [← FL]; exact h)
      have e2:60 - (m.length+1)=n:=oM
      rw [HF.out,e1,e2,← GK,y6,List.drop_drop]
      simp
     have i3:(a:Int)+(y.size:Int)+1≤(s.size:Int):=oM
     clear DONE h1 hx y6 hn hp zD FL GK hy zL De wR yK
     go_wp2_with fail
     refine (Db.out _).mono ?_
     rintro e w3 ⟨A3,c3,rfl,xp,wZ⟩
     obtain ⟨g3,rfl,x0,hg3,hg3'⟩:=xJ.out _ _ _ _ xp
     go_wp2_with fail
     refine (GH.out _).mono ?_
     rintro e w4 ⟨ra,rb,ok,rfl,xT,wV⟩
     obtain ⟨_,yb,x4,_,_⟩:=xJ.out _ _ _ _ (ac xp (wV.alloc wV.size (.cells #[.string ra,.string rb] 62)))
     injection yb with yb; injection yb with yb _; subst yb
     clear x0
     have zy:=av wZ (wV.alloc wV.size (.cells #[.string ra,.string rb] 62))
     cases ok
     ·have HD:=jZ (EV.out (by rcases xT with ⟨h,_⟩ | ⟨_,h⟩; cases h; exact h) _ zy)
      clear xT xp
      go_wp2_with fail
      go_ret2
      exact HD.out
     ·have hdec' : ed m.length (bl y)=some (bl ra,bl rb):=by rcases xT with ⟨_,h⟩ | ⟨h,_⟩; exact h; cases h
      have BR:=jZ (Dd.out _ _ hdec')
      clear xT hdec'
      have GI:=jZ (ac HR.out zy)
      have AO:=jZ (ac xp (wV.alloc wV.size (.cells #[.string ra,.string rb] 62)))
      clear xp
      have FK:=q.size
      have DV:w.heap.size≤(w4.alloc (.cells #[.string ra,.string rb] 62)).heap.size:=jT FK zy.size
      go_wp2_with (at_builtin; refine cF (w0:=w4.alloc (.cells #[.string ra,.string rb] 62)) rfl (.tmp 39) (.tmp 41) 58 rfl 62 _ 2 32 Tryz.underlying58 tC rfl (by omega) (by omega) w.heap.size _ _ _ rfl GI #[.string ra,.string rb] 1 _ rfl (by first | rfl | simp | exact Array.size_push _) rfl (by simp [Value.oneCell']) (by omega) DV rfl rfl rfl rfl ?_; intro v5 w5 AJ yy hb5; obtain ⟨_,yb,x5,_,_⟩:=xJ.out _ _ _ _ (ff AO.out GI.out (show (62:TypeId) ≠ 9 by decide) yy); injection yb with yb; injection yb with yb _; subst yb)
      obtain ⟨A5,c5,zW⟩:=az AJ.out
      subst zW
      go_roundw
      case rel =>
       refine ⟨a+(y.size+1),A5,c5,m++[⟨ra,rb⟩],acc++[((bl ra,bl rb),y.size+1)],by simp; omega,oM,sP,by go_num,⟨(q.go nR zy).go' hb5,rfl⟩, ?_, ?_, ?_, ?_⟩
       ·have h1:=HA.out; unfold dX at h1; unfold dX Hid; simp [h1]
       ·have h1:=HL.out; unfold Hid; rw [← h1]; simp [cr]
       ·have h1:=BR.out; rw [Hid]; simpa using h1
       ·have h1:=AJ.out; rw [Hid]; simpa [dA.enc] using h1
      case measure=>simp [lenOf]; omega
    ·obtain rfl:n0=1:=by rw [De.2 h1] at wR; exact wR
     have HD:=jZ (DONE (dG h1))
     clear DONE h1 hx y6 hn FL GK zL De wR yK
     go_wp2_with fail
     refine (Db.out _).mono ?_
     rintro e w3 ⟨A3,c3,rfl,xp,wZ⟩
     obtain ⟨g3,rfl,x0,hg3,hg3'⟩:=xJ.out _ _ _ _ xp
     clear xp
     go_wp2_with fail
     refine (GH.out _).mono ?_
     rintro e w4 ⟨ra,rb,ok,rfl,xT,wV⟩
     clear xT
     have zy:=av wZ (wV.alloc wV.size (.cells #[.string ra,.string rb] 62))
     have MK:=jZ (HD.out _ zy)
     go_wp2_with fail
     go_ret2
     exact MK.out
   ·have HD:Hid (ie s w (.returned (.tuple #[.slice A m.length c,.int .i64 (a:Nat)])) q.val):=DONE (by rw [show 60 - m.length=0 by omega]; rfl) _ jB
    clear DONE
    go_wp2
    go_ret2
    exact HD.out
  ·have HD:Hid (ie s w (.returned (.tuple #[.slice A m.length c,.int .i64 (a:Nat)])) q.val):=DONE (dG (by rw [List.drop_eq_nil_of_le (by rw [an]; omega)]; simp)) _ jB
   clear DONE
   go_wp2
   go_ret2
   exact HD.out
structure Lg where
 D:ByteArray
 P:ByteArray
 n:Int
abbrev Lg.val (l:Lg):Value:=.agg #[wG l.D,wG l.P,O U l.n]
noncomputable def Lg.ok (l:Lg):Bool:=q9 (bl l.D) (bl l.P) l.n
def Lg.all (l:Lg):List UInt8:=bl l.D++bl l.P
theorem eM {α:Type} {l:List α} {j:Nat} (h:j < l.length) (d:α):l.getD j d=l[j]:=by rw [List.getD_eq_getElem?_getD,List.getElem?_eq_getElem h]; rfl
theorem od {W:World} {B n:Nat} {A:Option Addr} {c:Nat} {l:List Nat} (h:W.ownsRow B 3 1 (F A n c) n (ug l)) (hn:n=l.length) (h0:0 < n) :
  ∃ g,A=some ⟨g,0,none⟩∧B≤g∧g < W.heap.size∧∀ j,j < n→W.cell? ⟨g,j,none⟩=some (O U ((l.getD j 0:Nat):Int)):=by
 obtain ⟨g,hA⟩ : ∃ g,A=some ⟨g,0,none⟩:=by
  obtain ⟨_,h0' | ⟨g,cap,cur,hv,_⟩⟩:=h
  ·have:=h0'.2; omega
  ·injection hv with e1 e2 e3; exact ⟨g,e1⟩
 subst hA
 refine ⟨g,rfl,(h.lt g rfl).1,(h.lt g rfl).2,fun j hj=>?_⟩
 rw [h.cellAt j oM]
 unfold ug
 rw [List.getElem?_map,List.getElem?_eq_getElem oM,eM oM]
 rfl
theorem oZ {W:World} {g c:Nat} {l:List Nat} {x:Nat} {n:Nat} (hn:n=l.length) (hb:n≤9223372036854775807) (h:∀ j,j < n→W.cell? ⟨g,j,none⟩=some (O U ((l.getD j 0:Nat):Int))) :
  Calls wH 78 #[F (some ⟨g,0,none⟩) n c,O U (x:Int)] W fun e w'=>e=.returned (.bool (decide (x ∈ l)))∧w'=W:=by
 have h1:=Tryz.slices_Contains_int g 0 n c (l.map fun (y:Nat)=>(y:Int)) x W (by simp; omega) hb (fun j hj=>by
  simp only [List.length_map] at hj
  rw [Nat.zero_add,h j oM,eM hj,eM (by simpa using hj)]
  simp)
 have h2:((l.map fun (y:Nat)=>(y:Int)).take n).contains (x:Int)=decide (x ∈ l):=by
  rw [List.take_of_length_le (by simp; omega),Bool.eq_iff_iff]
  simp only [List.contains_eq_mem,decide_eq_true_eq,List.mem_map]
  exact ⟨fun ⟨a,ha,e⟩=>by rw [← Int.ofNat.inj e]; exact ha,fun h=>⟨x,h,rfl⟩⟩
 rw [h2] at h1
 exact h1
set_option maxRecDepth 100000 in
theorem kF (l:Lg) (w:World) (hs:l.D.size+l.P.size≤2000000) (ht:hQ w) :
  Calls wH 42 #[l.val] w fun e w'=>e=.returned (.bool l.ok)∧Below w.heap.size w w':=by
 have b1:=bZ w (.cells #[wG l.D,wG l.P,O U l.n] 27)
 have L1:=ai.new w 27 #[wG l.D,wG l.P,O U l.n]
 have yg:=ht.then b1
 have Bt:bl (l.D++l.P)=bl l.D++bl l.P:=cE _ _
 have hz:(l.D++l.P).size=l.D.size+l.P.size:=bg _ _
 have Lo:=jZ (fun W hW=>gU (l.D++l.P) W oM hW)
 have wP:=@sg (bl l.D) (bl l.P) l.n
 have wR:=cW 60 0 (bl (l.D++l.P))
 have hroom:=fL 60 0 (bl (l.D++l.P))
 have hlast:=lg 0 (aG 60 0 (bl (l.D++l.P)))
 have Gl:=hH 0 (aG 60 0 (bl (l.D++l.P)))
 rw [← Bt] at wP
 rw [an] at hroom
 rw [an,an] at wP
 rw [Nat.zero_add] at hlast
 obtain ⟨rs,Dg⟩ : ∃ rs,rs=aG 60 0 (bl (l.D++l.P)):=⟨_,rfl⟩
 obtain ⟨en,JI⟩ : ∃ en,en=ew 0 (aG 60 0 (bl (l.D++l.P))):=⟨_,rfl⟩
 have EW:Hid (∀ W,hQ W→Calls wH 68 #[wG (l.D++l.P)] W fun e w'=>∃ A c A' c' k g,k=rs.length∧A'=some ⟨g,0,none⟩∧e=.returned (.tuple #[F A k c,F A' (k+1) c'])∧(∀ j,j < k+1→w'.cell? ⟨g,j,none⟩=some (O U ((en.getD j 0:Nat):Int)))∧Below W.heap.size W w'):=fun W hW=>by
  refine (Lo.out W hW).mono ?_
  rintro e w' ⟨A,c,A',c',m,rfl,hm,_,hO,hb⟩
  have Io:=gE hm
  obtain ⟨g,hA,_,_,hc⟩:=od hO (by rw [hH,Io]) oM
  exact ⟨A,c,A',c',m.length,g,by rw [Io,Dg],hA,rfl,by rw [JI]; exact hc,hb⟩
 clear Lo
 rw [← JI] at hlast Gl wP
 rw [← Dg] at wR hroom hlast Gl wP
 obtain ⟨k0,zZ⟩ : ∃ k0,k0=rs.length:=⟨_,rfl⟩
 rw [← zZ] at wR hlast Gl wP EW
 obtain ⟨z,yX⟩ : ∃ z,z=cr rs:=⟨_,rfl⟩
 rw [← yX] at hroom hlast wP
 have hlast' : en.getD k0 0=z:=by rw [List.getD_eq_getElem?_getD,hlast]; rfl
 have Bs:Hid (∀ (W:World) (g c:Nat),(∀ j,j < k0+1→W.cell? ⟨g,j,none⟩=some (O U ((en.getD j 0:Nat):Int)))→Calls wH 78 #[F (some ⟨g,0,none⟩) (k0+1) c,O U (l.D.size:Int)] W fun e w'=>e=.returned (.bool (decide (l.D.size ∈ en)))∧w'=W):=fun W g c h=>oZ oM oM h
 have xf:Hid (l.ok=(decide (z=l.D.size+l.P.size) && decide (l.D.size ∈ en) && decide (l.n=(k0:Int)))):=by
  unfold Hid Lg.ok
  rw [Bool.eq_iff_iff,wP]
  simp [and_assoc]
 clear wP hlast Bt Dg JI zZ yX
 generalize decide (l.D.size ∈ en)=dc at Bs xf
 go_enter Tryz.func42,Tryz.ntmps42
 go_wp2_with fail
 generalize w.alloc (.cells #[wG l.D,wG l.P,O U l.n] 27)=W at b1 L1 yg ⊢
 generalize hg:w.heap.size=g at L1 ⊢
 refine (EW.out _ yg).mono ?_
 rintro e w2 ⟨A,c,A',c',k,g',rfl,rfl,rfl,hc',wM⟩
 have L2:=L1.below wM L1.lt
 obtain ⟨c0,c1,c2⟩:=cells3 L2
 have JJ:=jZ (Bs.out w2 g' c' hc')
 have hl:=hc' k oM
 rw [hlast'] at hl
 have ze:Below w.heap.size w w2:=by rw [← hg] at *; exact av b1 wM
 clear L1 L2 hc' Bs EW
 by_cases e1:z=l.D.size+l.P.size
 ·rw [jD e1] at xf
  have d1:((z:Int) == (l.D.size:Int)+(l.P.size:Int))=true:=by rw [e1]; simp
  cases dc
  ·clear e1
   go_wp2_with (go_at_call 78; refine (JJ.out).mono ?_; rintro e w' ⟨rfl,rfl⟩)
   go_ret
   exact ⟨by rw [xf.out]; rfl,ze⟩
  ·by_cases e3:l.n=(k:Int)
   ·rw [jD e3] at xf
    have d3:(l.n == (k:Int))=true:=by rw [e3]; simp
    clear e1 e3
    go_wp2_with (go_at_call 78; refine (JJ.out).mono ?_; rintro e w' ⟨rfl,rfl⟩)
    go_ret
    exact ⟨by rw [xf.out]; rfl,ze⟩
   ·rw [jE e3] at xf
    have d3:(l.n == (k:Int))=false:=by simp [e3]
    clear e1 e3
    go_wp2_with (go_at_call 78; refine (JJ.out).mono ?_; rintro e w' ⟨rfl,rfl⟩)
    go_ret
    exact ⟨by rw [xf.out]; rfl,ze⟩
 ·rw [jE e1] at xf
  have d1:((z:Int) == (l.D.size:Int)+(l.P.size:Int))=false:=by simp; omega
  clear e1
  go_wp2_with fail
  go_ret
  exact ⟨by rw [xf.out]; rfl,ze⟩
set_option maxRecDepth 100000 in
theorem jF (l:Lg) (w:World) (hs:l.D.size+l.P.size≤2000000) :
  Calls wH 40 #[l.val] w fun e w'=>e=.returned (.bool l.ok)∧Below w.heap.size w w':=by
 have b1:=bZ w (.cells #[wG l.D,wG l.P,O U l.n] 27)
 have L1:=ai.new w 27 #[wG l.D,wG l.P,O U l.n]
 have Bt:bl (l.D++l.P)=bl l.D++bl l.P:=cE _ _
 have hz:(l.D++l.P).size=l.D.size+l.P.size:=bg _ _
 have wP:=@ce (bl l.D) (bl l.P) l.n
 rw [← Bt] at wP
 rw [an,an] at wP
 by_cases AK:30000 < l.D.size+l.P.size
 ·have xf:Hid (l.ok=false):=by
   unfold Hid Lg.ok
   rw [Bool.eq_false_iff]
   intro h
   have h1:=fi (by rw [← Bt,an,an]; exact (wP.1 h).1)
   rw [an,an] at h1; omega
  have d0:decide (30000 < (l.D.size:Int)+(l.P.size:Int))=true:=jD oM
  clear wP AK
  go_enter Tryz.func40,Tryz.ntmps40
  go_wp2_with fail
  go_ret
  exact ⟨by rw [xf.out]; rfl,b1⟩
 ·have d0:decide (30000 < (l.D.size:Int)+(l.P.size:Int))=false:=jE oM
  have Cc:l.D.size+l.P.size≤30000:=oM
  have HA:=jZ (fun W=>km (l.D++l.P) W oM)
  have HB:=jZ (fun W=>km l.D W oM)
  have wR:=cW 60 0 (bl (l.D++l.P))
  have hroom:=fL 60 0 (bl (l.D++l.P))
  have hroomD:=fL 60 0 (bl l.D)
  rw [an] at hroom hroomD
  obtain ⟨k0,zZ⟩ : ∃ k0,k0=(aG 60 0 (bl (l.D++l.P))).length:=⟨_,rfl⟩
  obtain ⟨z,yX⟩ : ∃ z,z=cr (aG 60 0 (bl (l.D++l.P))):=⟨_,rfl⟩
  obtain ⟨y,Ip⟩ : ∃ y,y=cr (aG 60 0 (bl l.D)):=⟨_,rfl⟩
  have Cj:Hid (∀ W,Calls wH 77 #[wG (l.D++l.P)] W fun e w'=>∃ A c k,k=k0∧e=.returned (.tuple #[F A k c,O U (z:Nat)])∧Below W.heap.size W w'):=fun W=>by
   refine (HA.out W).mono ?_
   rintro e w' ⟨A,c,m,rfl,hm,_,hb⟩
   exact ⟨A,c,m.length,by rw [gE hm,zZ],by rw [yX],hb⟩
  have Iq:Hid (∀ W,Calls wH 77 #[wG l.D] W fun e w'=>∃ A c k,e=.returned (.tuple #[F A k c,O U (y:Nat)])∧Below W.heap.size W w'):=fun W=>by
   refine (HB.out W).mono ?_
   rintro e w' ⟨A,c,m,rfl,hm,_,hb⟩
   exact ⟨A,c,m.length,by rw [Ip],hb⟩
  rw [← zZ,← yX,← Ip] at wP
  rw [← zZ] at wR
  rw [← yX] at hroom
  rw [← Ip] at hroomD
  have xf:Hid (l.ok=(decide (z=l.D.size+l.P.size) && decide (y=l.D.size) && decide ((k0:Int)=l.n))):=by
   unfold Hid Lg.ok
   rw [Bool.eq_iff_iff,wP]
   simp [and_assoc]
  clear wP Bt zZ yX Ip HA HB AK
  go_enter Tryz.func40,Tryz.ntmps40
  go_wp2_with fail
  generalize w.alloc (.cells #[wG l.D,wG l.P,O U l.n] 27)=W at b1 L1 ⊢
  generalize hg:w.heap.size=g at L1 ⊢
  refine (Cj.out _).mono ?_
  rintro e w2 ⟨A,c,k,rfl,rfl,wM⟩
  have L2:=L1.below wM L1.lt
  obtain ⟨c0,c1,c2⟩:=cells3 L2
  clear L1
  go_wp2_with fail
  refine (Iq.out _).mono ?_
  rintro e w3 ⟨A',c',k',rfl,wZ⟩
  have L3:=L2.below wZ L2.lt
  clear c0 c1 c2
  obtain ⟨c0,c1,c2⟩:=cells3 L3
  have ze:Below w.heap.size w w3:=by rw [← hg] at *; exact av b1 (av wM wZ)
  clear L2 L3
  by_cases e1:z=l.D.size+l.P.size
  ·rw [jD e1] at xf
   have d1:((z:Int) == (l.D.size:Int)+(l.P.size:Int))=true:=by rw [e1]; simp
   by_cases e2:y=l.D.size
   ·rw [jD e2] at xf
    have d2:((y:Int) == (l.D.size:Int))=true:=by rw [e2]; simp
    by_cases e3:(k:Int)=l.n
    ·rw [jD e3] at xf
     have d3:((k:Int) == l.n)=true:=by rw [e3]; simp
     clear e1 e2 e3
     go_wp2_with fail
     go_ret
     exact ⟨by rw [xf.out]; rfl,ze⟩
    ·rw [jE e3] at xf
     have d3:((k:Int) == l.n)=false:=by simp [e3]
     clear e1 e2 e3
     go_wp2_with fail
     go_ret
     exact ⟨by rw [xf.out]; rfl,ze⟩
   ·rw [jE e2] at xf
    have d2:((y:Int) == (l.D.size:Int))=false:=by simp; omega
    clear e1 e2
    go_wp2_with fail
    go_ret
    exact ⟨by rw [xf.out]; rfl,ze⟩
  ·rw [jE e1] at xf
   have d1:((z:Int) == (l.D.size:Int)+(l.P.size:Int))=false:=by simp; omega
   clear e1
   go_wp2_with fail
   go_ret
   exact ⟨by rw [xf.out]; rfl,ze⟩
end Go.Proofs.YtoeoimhemojdeaaGreatDoor
namespace Go.Proofs.YtoeoimhemojdeaaGreatDoor
open Go.ChangeShapes Go.WideShapes Go.ChangeAt Go.RowKit Go.Deep
section
variable {H:Type} {enc:TypeId × Value→H} {P:Program} {w:World} {base:Nat} {spare:Nat→Bool} {held:Bool}
theorem ui {w:World} {a:Addr} {u:Value} (h:w.cell? a=some u):∃ b off,a=⟨b,off,none⟩∧b < w.heap.size:=by
 obtain ⟨b,off,sp⟩:=a
 cases sp with
 | none=>exact ⟨b,off,rfl,block_lt_of_cell h⟩
 | some s =>
  simp only [World.cell?] at h
  split at h <;> simp_all
theorem ri {t e:TypeId} {k n:Nat} {v:Value} {x:DataW H × List MemPlace} (ht:P.underlying t=some (.slice e)) (hk:P.cellsOf e=k) (zZ:0 < k)
  (h:DataW.trod enc P w base spare held n t [v]=some x) :
  ∃ A len cap,v=.slice A len cap∧∃ css:List (List Value),css.length=len∧bm w w.heap.size k A len css.flatten ∧
   ∀ cs ∈ css,cs.length=k∧∃ m y,DataW.trod enc P w base spare held m e cs=some y:=by
 rcases open_slice ht h with ⟨h0,_⟩ | ⟨a,len,cap,m,n',D,Pl,yi,hb,hl,hm,CA,hx,hi⟩
 ·have:v=.slice none 0 0:=by simpa using h0
  exact ⟨none,0,0,this,[],rfl,bm.nil _ _ _ _,sP⟩
 ·have hv:v=.slice (some a) len cap:=by simpa using yi
  have zz:len≤m:=by rw [CA]; split <;> omega
  rw [hk] at hi
  have JK:∀ i:Nat,∃ cs:List Value,cs.length=k∧(i < len→(∀ j u,cs[j]?=some u→w.cell? ((a.add (i * k)).add j)=some u)∧∃ m y,DataW.trod enc P w base spare held m e cs=some y):=fun i=>by
   by_cases wQ:i < len
   ·obtain ⟨cs',hc,ht'⟩:=hi i oM
    obtain ⟨_,xY,hat⟩:=World.cells?_some hc
    exact ⟨cs',xY,fun _=>⟨fun j u hu=>by
     have hj:j < cs'.length:=(List.getElem?_eq_some_iff.1 hu).1
     rw [hat j oM,hu],_,_,ht'⟩⟩
   ·exact ⟨List.replicate k undef,sP,fun h=>absurd h wQ⟩
  obtain ⟨f,hf⟩:=Classical.axiomOfChoice JK
  have FJ:∀ i,(f i).length=k:=fun i=>(hf i).1
  have wR:=fW f k FJ (List.range len)
  rw [List.length_range,List.flatMap_def] at wR
  refine ⟨some a,len,cap,hv,(List.range len).map f,sP,⟨wR,by unfold maxLen at hm; omega,fun GL=>?_⟩, ?_⟩
  ·have h00:(f 0)[0]?=some ((f 0)[0]'(by rw [FJ]; exact zZ)):=List.getElem?_eq_getElem _
   have hc0:=((hf 0).2 GL).1 0 _ h00
   rw [Nat.zero_mul] at hc0
   obtain ⟨b,off,rfl,hb'⟩:=ui (a:=a) hc0
   refine ⟨b,off,rfl,hb',fun j u hu=>?_⟩
   have hj:j < len * k:=by rw [← wR]; exact (List.getElem?_eq_some_iff.1 hu).1
   have hi' : j / k < len:=Nat.div_lt_of_lt_mul (by rw [Nat.mul_comm]; exact hj)
   have hr:j % k < k:=Nat.mod_lt _ zZ
   have e:j=j / k * k+j % k:=by rw [Nat.mul_comm]; exact (Nat.div_add_mod j k).symm
   have hat:=fl f k FJ (List.range len) (j / k) (by simpa using hi') (j % k) hr
   rw [List.flatMap_def,← e,List.getElem_range,hu] at hat
   have hc:=((hf (j / k)).2 hi').1 (j % k) u hat.symm
   have JL:((⟨b,off,none⟩ : Addr).add (j / k * k)).add (j % k)=⟨b,off+j,none⟩:=by
    unfold Addr.add
    by_cases h1:j / k * k=0 <;> by_cases h2:j % k=0 <;> simp [h1,h2] <;> omega
   rw [JL] at hc
   exact hc
  ·intro cs yi
   obtain ⟨i,hi,rfl⟩:=List.mem_map.1 yi
   exact ⟨FJ i,((hf i).2 (List.mem_range.1 hi)).2⟩
end
theorem mt {α:Type} (enc:α→List Value):∀ css:List (List Value),(∀ cs ∈ css,∃ x,cs=enc x)→∃ l:List α,css.flatten=l.flatMap enc∧l.length=css.length
 | [],_=>⟨[],rfl,rfl⟩
 | cs :: css,h=>by
  obtain ⟨x,hx⟩:=h cs sP
  obtain ⟨l,hl,hn⟩:=mt enc css (fun c hc=>h c (by simp [hc]))
  exact ⟨x :: l,by simp [hl,hx],by simp [hn]⟩
section
variable {H:Type} {enc:TypeId × Value→H} {P:Program} {w:World} {base:Nat} {spare:Nat→Bool} {held:Bool}
end
section
variable {H:Type} {enc:TypeId × Value→H} {P:Program} {w:World} {base:Nat} {spare:Nat→Bool} {held:Bool}
end
end Go.Proofs.YtoeoimhemojdeaaGreatDoor
namespace Go.Proofs.YtoeoimhemojdeaaGreatDoor
open Go.RowKit
abbrev aJ (x:aO) (l:Lg):Value:=.agg #[F x.TA x.t.length x.tc,F x.OA x.o.length x.oc,O U x.gt,O U x.sd,O U x.ms,wG l.D,wG l.P,O U l.n]
noncomputable def dx (x:aO) (l:Lg):Bool:=ao x && l.ok
theorem jH {w:World} {g:Nat} {t:TypeId} {x:aO} {l:Lg} (h:ai w g t [F x.TA x.t.length x.tc,F x.OA x.o.length x.oc,O U x.gt,O U x.sd,O U x.ms,wG l.D,wG l.P,O U l.n]) (hr:aQ w w.heap.size x):cw w w.heap.size g x :=
 ⟨⟨fun p=>(p.cell h.lt).trans (h.cell 0),fun p=>(p.cell h.lt).trans (h.cell 1),fun p=>(p.cell h.lt).trans (h.cell 2),fun p=>(p.cell h.lt).trans (h.cell 3),fun p=>(p.cell h.lt).trans (h.cell 4)⟩,h.lt,hr⟩
theorem eH (x:aO) (l:Lg) (w:World) (h:aQ w w.heap.size x) (hs:l.D.size+l.P.size≤2000000) :
  Calls wH 45 #[aJ x l] w fun e w'=>e=.returned (.bool (dx x l))∧Below w.heap.size w w':=by
 have b1:=bZ w (.cells #[F x.TA x.t.length x.tc,F x.OA x.o.length x.oc,O U x.gt,O U x.sd,O U x.ms,wG l.D,wG l.P,O U l.n] 42)
 have L1:=ai.new w 42 #[F x.TA x.t.length x.tc,F x.OA x.o.length x.oc,O U x.gt,O U x.sd,O U x.ms,wG l.D,wG l.P,O U l.n]
 have cO:=er x _ (h.up b1 nR)
 have HC:Hid (dx x l=(ao x && l.ok)):=rfl
 have cL:=fun W=>jF l W hs
 generalize ao x=v1 at cO HC
 generalize l.ok=v2 at cL HC
 cases v1
 ·go_enter Tryz.func45,Tryz.ntmps45
  go_wp2_with fail
  refine cO.mono ?_
  rintro e w1 ⟨rfl,wN⟩
  go_wp2_with fail
  go_ret
  exact ⟨by rw [HC.out]; rfl,av b1 wN⟩
 ·go_enter Tryz.func45,Tryz.ntmps45
  go_wp2_with fail
  refine cO.mono ?_
  rintro e w1 ⟨rfl,wN⟩
  have M1:=L1.below wN L1.lt
  have c5:=M1.cell 5
  have c6:=M1.cell 6
  have c7:=M1.cell 7
  simp only [gz0,gz1] at c5 c6 c7
  go_wp2_with fail
  refine (cL _).mono ?_
  rintro e w2 ⟨rfl,wM⟩
  go_wp2_with fail
  go_ret
  exact ⟨by rw [HC.out]; rfl,av b1 (av wN wM)⟩
theorem dK (x:aO) (l:Lg) (w:World) (h:aQ w w.heap.size x) (hs:l.D.size+l.P.size≤2000000) (ht:hQ w) :
  Calls wH 28 #[aJ x l] w fun e w'=>e=.returned (.bool (dx x l))∧Below w.heap.size w w':=by
 have b1:=bZ w (.cells #[F x.TA x.t.length x.tc,F x.OA x.o.length x.oc,O U x.gt,O U x.sd,O U x.ms,wG l.D,wG l.P,O U l.n] 42)
 have L1:=ai.new w 42 #[F x.TA x.t.length x.tc,F x.OA x.o.length x.oc,O U x.gt,O U x.sd,O U x.ms,wG l.D,wG l.P,O U l.n]
 have yg:=ht.then b1
 have cO:=bc x _ _ (jH L1 (h.up b1 nR))
 have HC:Hid (dx x l=(ao x && l.ok)):=rfl
 have cL:=fun W hW=>kF l W hs hW
 generalize ao x=v1 at cO HC
 generalize l.ok=v2 at cL HC
 cases v1
 ·go_enter Tryz.func28,Tryz.ntmps28
  go_wp2_with fail
  refine cO.mono ?_
  rintro e w1 ⟨rfl,wN⟩
  go_wp2_with fail
  go_ret
  exact ⟨by rw [HC.out]; rfl,av b1 wN⟩
 ·go_enter Tryz.func28,Tryz.ntmps28
  go_wp2_with fail
  refine cO.mono ?_
  rintro e w1 ⟨rfl,wN⟩
  have M1:=L1.below wN L1.lt
  have c5:=M1.cell 5
  have c6:=M1.cell 6
  have c7:=M1.cell 7
  simp only [gz0,gz1] at c5 c6 c7
  go_wp2_with fail
  refine (cL _ (yg.then wN)).mono ?_
  rintro e w2 ⟨rfl,wM⟩
  go_wp2_with fail
  go_ret
  exact ⟨by rw [HC.out]; rfl,av b1 (av wN wM)⟩
theorem kG {W:World} {g:Nat} {l:List UInt8} {cap:Nat} (h:∀ j,j < l.length→W.cell? ⟨g,j,none⟩=some (.int .u8 ((l.getD j 0).toNat:Int))) :
  (convert 54 9 (F (some ⟨g,0,none⟩) l.length cap)).run wH W=.ok (wG ⟨l.toArray⟩) W :=
 run_convert_bytes_back W 54 9 5 ⟨g,0,none⟩ cap l Tryz.underlying54 Tryz.underlying5 Tryz.underlying9 (fun j hj=>by
  have e:(⟨g,0,none⟩ : Addr).add j=⟨g,j,none⟩:=by unfold Addr.add; simp <;> exact fun h=>h.symm
  rw [e,h j hj,eM hj])
noncomputable def iv (l:Lg):Lg:=if l.ok then ⟨l.D++l.P,⟨#[]⟩,l.n⟩ else ⟨⟨#[]⟩,⟨#[]⟩,0⟩
set_option maxRecDepth 100000 in
theorem qf (l:Lg) (w:World) (hs:l.D.size+l.P.size≤2000000) :
  Calls wH 191 #[l.val] w fun e w'=>e=.returned (.tuple #[(iv l).val,.bool l.ok])∧Below w.heap.size w w':=by
 have b1:=(bZ w (.cells #[wG l.D,wG l.P,O U l.n] 27)).alloc sP (.cells #[wG ⟨#[]⟩,wG ⟨#[]⟩,O U 0] 27)
 have L1:=(ai.new w 27 #[wG l.D,wG l.P,O U l.n]).alloc (.cells #[wG ⟨#[]⟩,wG ⟨#[]⟩,O U 0] 27)
 have N1:=ai.new (w.alloc (.cells #[wG l.D,wG l.P,O U l.n] 27)) 27 #[wG ⟨#[]⟩,wG ⟨#[]⟩,O U 0]
 have hz:(l.D++l.P).size=l.D.size+l.P.size:=bg _ _
 have Iu:Hid (iv l=if l.ok then ⟨l.D++l.P,⟨#[]⟩,l.n⟩ else ⟨⟨#[]⟩,⟨#[]⟩,0⟩):=rfl
 go_enter Tryz.func191,Tryz.ntmps191
 go_wp2_with fail
 have yb:(w.alloc (.cells #[wG l.D,wG l.P,O U l.n] 27)).heap.size=w.heap.size+1:=sP
 generalize (w.alloc (.cells #[wG l.D,wG l.P,O U l.n] 27)).alloc (.cells #[wG ⟨#[]⟩,wG ⟨#[]⟩,O U 0] 27)=W at  b1 L1 N1 ⊢
 rw [yb] at N1
 generalize hg:w.heap.size=g at L1 N1 ⊢
 refine (jF l _ hs).mono ?_
 rintro e w2 ⟨rfl,wM⟩
 have L2:=L1.below wM L1.lt
 have N2:=N1.below wM N1.lt
 have c0:=L2.cell 0
 have c1:=L2.cell 1
 have c2:=L2.cell 2
 have n0:=N2.cell 0
 have n1:=N2.cell 1
 have n2:=N2.cell 2
 obtain ⟨f0,f1,f2⟩:=frz3 N2
 have DE:=L2.lt
 have Iv:=N2.lt
 simp only [gz0,gz1] at c0 c1 c2 n0 n1 n2
 have ze:Below w.heap.size w w2:=by rw [← hg] at *; exact av b1 wM
 clear L1 L2 N1 N2
 cases wP:l.ok
 ·have HV:Hid (iv l=⟨⟨#[]⟩,⟨#[]⟩,0⟩):=by rw [Iu.out,wP]; rfl
  have HK:=jZ wP
  clear wP Iu
  go_wp2_with fail
  refine bodyPost_ret (v:=.tuple #[.agg #[wG ⟨#[]⟩,wG ⟨#[]⟩,O U 0],.bool false]) (by simp [results,Tryz.results191,go_sem, *]) rfl ⟨by rw [HK.out,HV.out], ?_⟩
  refine ze.trans ?_
  repeat (first | exact Below.refl _ _ | refine Below.setCell ?_ (by simp; omega) _)
 ·have HV:Hid (iv l=⟨l.D++l.P,⟨#[]⟩,l.n⟩):=by rw [Iu.out,wP]; rfl
  have HK:=jZ wP
  clear wP Iu
  go_wp2_with fail
  refine bodyPost_ret (v:=.tuple #[.agg #[wG (l.D++l.P),wG ⟨#[]⟩,O U l.n],.bool true]) (by simp [results,Tryz.results191,go_sem, *]) rfl ⟨by rw [HK.out,HV.out], ?_⟩
  refine ze.trans ?_
  repeat (first | exact Below.refl _ _ | refine Below.setCell ?_ (by simp; omega) _)
theorem wn {w0 w:World} {B g:Nat} (b:Below B w0 w) (hB:B≤g) (a0 a1 a2 a3:Value):Below B w0 ((((w.setCell ⟨g,0,none⟩ a0).setCell ⟨g,1,none⟩ a1).setCell ⟨g,2,none⟩ a2).setCell ⟨g,3,none⟩ a3):=((((b).setCell (p:=⟨g,0,none⟩) hB a0).setCell (p:=⟨g,1,none⟩) hB a1).setCell (p:=⟨g,2,none⟩) hB a2).setCell (p:=⟨g,3,none⟩) hB a3
theorem wF {w:World} {g:Nat} {t:TypeId} {x0 x1 x2 x3:Value} {r:List Value} (hL:ai w g t (x0 :: x1 :: x2 :: x3 :: r)) (a0 a1 a2 a3:Value):ai ((((w.setCell ⟨g,0,none⟩ a0).setCell ⟨g,1,none⟩ a1).setCell ⟨g,2,none⟩ a2).setCell ⟨g,3,none⟩ a3) g t (a0 :: a1 :: a2 :: a3 :: r):=((((hL).set 0 a0).set 1 a1).set 2 a2).set 3 a3
theorem un {w:World} {g:Nat} {t:TypeId} {x0 x1 x2 x3 x4:Value} {r:List Value} (hL:ai w g t (x0 :: x1 :: x2 :: x3 :: x4 :: r)) (a0 a1 a2 a3 a4:Value):ai (((((w.setCell ⟨g,0,none⟩ a0).setCell ⟨g,1,none⟩ a1).setCell ⟨g,2,none⟩ a2).setCell ⟨g,3,none⟩ a3).setCell ⟨g,4,none⟩ a4) g t (a0 :: a1 :: a2 :: a3 :: a4 :: r):=(((((hL).set 0 a0).set 1 a1).set 2 a2).set 3 a3).set 4 a4
theorem eX {w0 w:World} {B g:Nat} (b:Below B w0 w) (hB:B≤g) (a0 a1 a2 a3 a4 a5 a6 a7:Value):Below B w0 ((((((((w.setCell ⟨g,0,none⟩ a0).setCell ⟨g,1,none⟩ a1).setCell ⟨g,2,none⟩ a2).setCell ⟨g,3,none⟩ a3).setCell ⟨g,4,none⟩ a4).setCell ⟨g,5,none⟩ a5).setCell ⟨g,6,none⟩ a6).setCell ⟨g,7,none⟩ a7):=((((((((b).setCell (p:=⟨g,0,none⟩) hB a0).setCell (p:=⟨g,1,none⟩) hB a1).setCell (p:=⟨g,2,none⟩) hB a2).setCell (p:=⟨g,3,none⟩) hB a3).setCell (p:=⟨g,4,none⟩) hB a4).setCell (p:=⟨g,5,none⟩) hB a5).setCell (p:=⟨g,6,none⟩) hB a6).setCell (p:=⟨g,7,none⟩) hB a7
theorem nn {w:World} {g:Nat} {t:TypeId} {x0 x1 x2 x3 x4 x5 x6 x7:Value} {r:List Value} (hL:ai w g t (x0 :: x1 :: x2 :: x3 :: x4 :: x5 :: x6 :: x7 :: r)) (a0 a1 a2 a3 a4 a5 a6 a7:Value):ai ((((((((w.setCell ⟨g,0,none⟩ a0).setCell ⟨g,1,none⟩ a1).setCell ⟨g,2,none⟩ a2).setCell ⟨g,3,none⟩ a3).setCell ⟨g,4,none⟩ a4).setCell ⟨g,5,none⟩ a5).setCell ⟨g,6,none⟩ a6).setCell ⟨g,7,none⟩ a7) g t (a0 :: a1 :: a2 :: a3 :: a4 :: a5 :: a6 :: a7 :: r):=((((((((hL).set 0 a0).set 1 a1).set 2 a2).set 3 a3).set 4 a4).set 5 a5).set 6 a6).set 7 a7
end Go.Proofs.YtoeoimhemojdeaaGreatDoor
