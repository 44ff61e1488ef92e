/- Lemmas. -/
import Derived.Test.YtoeoimhemojdeaaGreatDoorFs47

set_option linter.unusedVariables false
set_option linter.unusedSimpArgs false
set_option maxHeartbeats 8000000
open Go.Value renaming int → O, slice → F, string → wG
open Go.IntKind renaming i64 → U
open Go.Proofs.Tryz renaming prog → wH

namespace Go.Proofs.YtoeoimhemojdeaaGreatDoor
open Go.RowKit
theorem bL.then {w w1 w' : World} {B g:Nat} {x:aO} {l:Lg} {R:Option (Oc × ByteArray)} {e:Ending} (hb:Below w.heap.size w w1) (Dx:B≤w.heap.size) (h:bL w1 B g x l R e w'):bL w B g x l R e w':=by
 rcases h with ⟨h1,h2,h3⟩ | ⟨z,r,h1,h2,h3,h4,h5,h6⟩
 ·exact .inl ⟨h1,h2,av hb h3⟩
 ·exact .inr ⟨z,r,h1,h2,h3,(hb.mono Dx).trans h4,jT hb.size h5,fun j hj wT=>(h6 j (jL hj hb.size) wT).trans (hb.block j hj)⟩
theorem bL.ofT {w w' : World} {B g:Nat} {x:aO} {l:Lg} {R:Option ByteArray} {e:Ending} (h:ef w R e w') (Ah:dr w B g x.c l) (Dx:B≤w.heap.size):bL w B g x l (R.map (x.c,·)) e w':=by
 obtain ⟨⟨s,rfl,h2⟩,h3⟩:=h
 cases R with
 | none=>exact .inl ⟨rfl,⟨s,rfl⟩,h3⟩
 | some r =>
  have:=h2 r rfl
  subst this
  exact .inr ⟨x.c,s,rfl,rfl,Ah.below h3,h3.mono Dx,h3.size,fun j hj _=>h3.block j hj⟩
theorem bL.form {w w' : World} {B g:Nat} {x:aO} {l:Lg} {R:Option (Oc × ByteArray)} {e:Ending} (h:bL w B g x l R e w'):∃ s b,e=.returned (.tuple #[wG s,.bool b]):=by
 rcases h with ⟨_,⟨s,h2⟩,_⟩ | ⟨z,r,_,h2,_⟩
 ·exact ⟨s,false,h2⟩
 ·exact ⟨r,true,h2⟩
theorem vx {m:List Int} {rest:List Value} {k:Nat} (h:k < m.length):(bi m++rest)[k]?=some (O U m[k]):=by
 rw [List.getElem?_append_left (by simpa using h),List.getElem?_map,List.getElem?_eq_getElem h]; rfl
set_option maxRecDepth 100000 in
theorem rD (x:aO) (l:Lg) (line:ByteArray) (g:Nat) (W0 w:World) (hL:ai w g 42 [F x.TA x.t.length x.tc,F x.OA x.o.length x.oc,O U x.gt,O U x.sd,O U x.ms,wG l.D,wG l.P,O U l.n]) (hB:W0.heap.size≤g) (hb0:Below W0.heap.size W0 w)
  (hT:w.ownsRow W0.heap.size 104 2 (F x.TA x.t.length x.tc) x.t.length (x.t.flatMap aq.enc)) (hO:w.ownsRow W0.heap.size 147 3 (F x.OA x.o.length x.oc) x.o.length (x.o.flatMap ae.enc)) (G:bK x) (hs:line.size≤1000) (zS:LW W0) :
  Calls wH 52 #[.pointer (some ⟨g,0,none⟩),wG line] w (bL w W0.heap.size g x l (iZ x line)):=by
 have FQ:=zS.then hb0
 have Dx:W0.heap.size≤w.heap.size:=hb0.size
 have hR:aQ w w.heap.size x:=⟨aw hT,aw hO⟩
 have Ah:dr w W0.heap.size g x.c l:=⟨x.TA,x.tc,x.OA,x.oc,hL,hT,hO⟩
 have Fc:=pE line 32 w oM FQ
 have Dk:=iU (b:=32) (n:=1000) (s:=bl line) (by rw [an]; exact hs)
 have Bz:=iT (b:=32) (n:=1000) (s:=bl line) (by rw [an]; exact hs)
 have DG:=jZ (fun h=>rr (x:=x) (line:=line) h)
 have Cl:=jZ (fun ns h=>rt (x:=x) (line:=line) (ns:=ns) h)
 have Dl:Hid (wd (bl line) 0=⟨((aI 32 (bl line)).getD 0 []).toArray⟩):=rfl
 obtain ⟨ps,zL⟩ : ∃ ps,aI 32 (bl line)=ps:=⟨_,rfl⟩
 simp only [zL] at Fc Dk Bz DG Cl Dl
 have FN:=jZ Bz
 obtain ⟨Ct,Ex⟩:=Dk
 obtain ⟨R,LG⟩ : ∃ R,iZ x line=R:=⟨_,rfl⟩
 rw [LG] at DG Cl ⊢
 obtain ⟨w0,GU⟩ : ∃ w0,wd (bl line) 0=w0:=⟨_,rfl⟩
 rw [GU] at Cl Dl
 clear zL Bz LG GU hT hO
 go_enter Tryz.func52,Tryz.ntmps52
 go_wp2_with fail
 refine Fc.mono ?_
 rintro e w3 ⟨rfl,L8,wZ⟩
 have S3:=jZ (vr.mk (w:=w) (v:=F none 0 0) (m:=[]) (rest:=[]) wZ (by rw [List.append_nil]; exact L8) (World.ownsRow_nil _ _ _ _))
 clear wZ Fc L8
 obtain ⟨N1,Fm⟩ : ∃ N1,ps.length=N1+1:=⟨ps.length - 1,oM⟩
 rw [Fm]
 generalize xu:w.heap.size=g8 at S3 ⊢
 by_cases h0N:N1=0
 ·subst h0N
  go_wp2_with fail
  go_loopw [7,9,10,11,17] (fun o _ _ _ i wr=>i=O U 0∧o=F none 0 0∧Hid (vr w wr g8 ps [] (F none 0 0) [])) (fun _ _ _ _ _ _=>0)
  case atStart=>exact ⟨rfl,rfl,S3⟩
  case round =>
   clear S3
   obtain ⟨rfl,rfl,HS⟩:=hrel
   have IC:dY (ps.drop 1)=some []:=by rw [List.drop_eq_nil_of_le oM]; rfl
   obtain ⟨m,CA⟩ : ∃ m:List Int,([] : List Int)=m:=⟨_,rfl⟩
   rw [CA] at HS IC
   have e0:m.length=0:=by rw [← CA]; rfl
   clear CA
   have Dn:Hid (dY (ps.drop 1)=some m):=IC
   have HE:=jZ (Cl.out m Dn.out)
   have S:=HS.out
   have bw:=S.bl
   have CB:=hL.below bw hL.lt
   have Fo:=hR.then bw
   have LW8:=S.ws
   have zk:=S.row
   have Eg:=Ah.below bw
   have Dy:=(FQ.then bw).tab
   have hb0r:=hb0.trans (bw.mono Dx)
   have Kf:W0.heap.size≤wr.heap.size:=hb0r.size
   have c80:wr.cell? ⟨g8,0,none⟩=some (wG w0):=by
    rw [LW8.cell,Dl.out,eM (by omega:0 < ps.length)]; exact fU ps _ _ oM
   have HB:=jZ bw
   have yd:=HE.out
   clear DG Cl Dl FN Ah hL hR FQ HE bw
   rw [oy e0] at yd
   have hc:=pD x l w0 g wr CB Fo G Dy
   subst yd
   go_wp2_with fail
   refine hc.mono ?_
   rintro e w7 hG
   have hM:=bL.then HB.out Dx (bL.ofT hG Eg Kf)
   obtain ⟨s,b,rfl⟩:=hM.form
   have HM:=jZ hM
   clear hM hG
   go_wp2_with fail
   go_ret2
   exact HM.out
 ·have Ok:0 < N1:=oM
  go_wp2_with fail
  go_loopw [7,9,10,11,17] (fun o _ _ _ i wr=>∃ (k:Nat) (A:Option Addr) (c:Nat) (m:List Int),k≤N1∧i=O U k∧o=F A m.length c∧m.length≤k∧Hid (vr w wr g8 ps [] (F A m.length c) m)∧Hid (gG m (ps.drop (k+1))=dY (ps.drop 1))) (fun _ _ _ _ i _=>N1 - (intOf i).toNat)
  case atStart=>exact ⟨0,none,0,[],Nat.zero_le _,rfl,rfl,Nat.zero_le _,S3,m6 _⟩
  case round =>
   clear S3
   obtain ⟨k,A,c,m,hk,rfl,rfl,GO,HS,Dm⟩:=hrel
   by_cases wQ:k < N1
   ·have Fp:k+1 < ps.length:=oM
    have zP:(k:Int) < (N1:Int):=oM
    have c0:wr.cell? ⟨g8,1+k,none⟩=some (wG ⟨(ps[k+1]'Fp).toArray⟩):=by
     rw [HS.out.ws.cell,Nat.add_comm 1 k]; exact fU ps _ _ Fp
    have ht:=FN.out (ps[k+1]'Fp) (List.getElem_mem _)
    obtain ⟨t,Fd⟩ : ∃ t:ByteArray,t=⟨(ps[k+1]'Fp).toArray⟩:=⟨_,rfl⟩
    have zC:bl t=ps[k+1]'Fp:=by rw [Fd,bo]
    rw [← Fd] at c0
    have Na:t.size≤1000:=by rw [← an,zC]; exact ht
    clear Fd ht
    have Er:Hid (dh (bl t)=none→dY (ps.drop 1)=none):=fun hn=>by
     rw [← Dm.out]; exact m7 Fp (by rw [← zC]; exact hn)
    have DX:Hid (∀ n,dh (bl t)=some n→gG (m++[n]) (ps.drop (k+1+1))=dY (ps.drop 1)):=fun n hn=>by
     rw [← Dm.out]; exact (m8 Fp (by rw [← zC]; exact hn)).symm
    have Cm:=fun W hW=>ql t W oM hW
    have CB:=FQ.then HS.out.bl
    unfold jo at Cm
    obtain ⟨q,hq⟩ : ∃ q,dh (bl t)=q:=⟨_,rfl⟩
    rw [hq] at Er DX Cm
    clear hq zC
    cases q with
    | none =>
     have HE:=DG.out (Er.out rfl)
     simp only [Option.isSome_none,Option.getD_none] at Cm
     rw [HE]
     clear HE
     go_wp2_with fail
     refine (Cm _ CB).mono ?_
     rintro e w4 ⟨rfl,wV⟩
     have b5:=jZ (av HS.out.bl wV)
     clear wV HS Dm
     go_wp2_with fail
     go_ret2
     exact bL.no b5.out
    | some n =>
     have HN:=jZ (DX.out n rfl)
     simp only [Option.isSome_some,Option.getD_some] at Cm
     go_wp2_with fail
     refine (Cm _ CB).mono ?_
     rintro e w4 ⟨rfl,wV⟩
     have DR:=jZ (HS.out.then wV)
     have BA:=jZ DR.out.row
     have xQ:w.heap.size≤w4.heap.size:=DR.out.bl.size
     go_wp2_with (at_builtin; refine cF (w0:=w4) rfl _ _ 100 rfl 3 _ 1 8 Tryz.underlying100 iO rfl (by omega) (by omega) w.heap.size _ _ _ rfl BA #[O U n] 1 _ rfl (by first | rfl | exact Array.size_push _) rfl (by simp [Value.oneCell']) (by omega) xQ rfl rfl rfl rfl ?_; intro v6 w6 AM yS xn)
     have Fe:=jZ (DR.out.push (n:=n) AM.out yS xn)
     obtain ⟨A6,c6,GJ⟩:=az AM.out
     subst GJ
     go_wp2
     go_roundw
     case rel=>exact ⟨k+1,A6,c6,m++[n],oM,by go_num,sP,by simp; omega,by rw [Hid]; simpa using Fe.out,HN.out⟩
     case measure=>simp [intOf]; omega
   ·have zP : ¬ (k:Int) < (N1:Int):=oM
    have IC:dY (ps.drop 1)=some m:=by
     have h1:=Dm.out; rw [List.drop_eq_nil_of_le oM,oq] at h1; exact h1.symm
    have Hi:=hL.lt
    have Dn:Hid (dY (ps.drop 1)=some m):=IC
    have HE:=jZ (Cl.out m Dn.out)
    have S:=HS.out
    have bw:=S.bl
    have CB:=hL.below bw hL.lt
    have Fo:=hR.then bw
    have LW8:=S.ws
    have zk:=S.row
    have Eg:=Ah.below bw
    have Dy:=(FQ.then bw).tab
    have hb0r:=hb0.trans (bw.mono Dx)
    have Kf:W0.heap.size≤wr.heap.size:=hb0r.size
    have c80:wr.cell? ⟨g8,0,none⟩=some (wG w0):=by
     rw [LW8.cell,Dl.out,eM (by omega:0 < ps.length)]; exact fU ps _ _ oM
    have hpsN:0 < N1+1:=oM
    have HB:=jZ bw
    have yd:=HE.out
    clear DG Cl Dl FN Ah hL hR FQ HE bw
    clear Dm
    by_cases e0:m.length=0
    ·have z0:((m.length:Int) == 0)=true:=by rw [e0]; rfl
     have z1:((m.length:Int) == 1)=false:=beq_false_of_ne oM
     have z2:((m.length:Int) == 2)=false:=beq_false_of_ne oM
     have z3:((m.length:Int) == 3)=false:=beq_false_of_ne oM
     rw [oy e0] at yd
     have hc:=pD x l w0 g wr CB Fo G Dy
     subst yd
     go_wp2_with fail
     refine hc.mono ?_
     rintro e w7 hG
     have hM:=bL.then HB.out Dx (bL.ofT hG Eg Kf)
     obtain ⟨s,b,rfl⟩:=hM.form
     have HM:=jZ hM
     clear hM hG
     go_wp2_with fail
     go_ret2
     exact HM.out
    by_cases e1:m.length=1
    ·have z0:((m.length:Int) == 0)=false:=beq_false_of_ne oM
     have z1:((m.length:Int) == 1)=true:=by rw [e1]; rfl
     have z2:((m.length:Int) == 2)=false:=beq_false_of_ne oM
     have z3:((m.length:Int) == 3)=false:=beq_false_of_ne oM
     obtain ⟨gN,cN,rN,hv,hgN,LN,_⟩:=ch zk oM
     injection hv with ea eb ec
     subst ea; subst ec
     clear eb
     have Ff:(0:Int) < (m.length:Int):=oM
     have yK:0 < m.length:=oM
     have d0n:wr.cell? ⟨gN,0,none⟩=some (O U (m[0]'yK)):=by rw [LN.cell]; exact vx yK
     rw [tF e1 yK] at yd
     obtain ⟨a0,Ab⟩ : ∃ a,m[0]'yK=a:=⟨_,rfl⟩
     rw [Ab] at d0n yd
     clear Ab
     cases hq:gV x w0 a0 with
     | none =>
      have hc:∀ W,ai W g 42 [F x.TA x.t.length x.tc,F x.OA x.o.length x.oc,O U x.gt,O U x.sd,O U x.ms,wG l.D,wG l.P,O U l.n]→aQ W W.heap.size x→hQ W→Calls wH 98 #[.pointer (some ⟨g,0,none⟩),wG w0,O U a0] W fun e w'=>(∃ s,e=.returned (.tuple #[wG s,.bool false]))∧Below W.heap.size W w':=fun W hL hR hT=>by
       have:=tG x l w0 a0 g W hL hR G hT
       rw [hq] at this
       exact this.mono fun _ _ ⟨⟨s,h1,_⟩,h2⟩=>⟨⟨s,h1⟩,h2⟩
      rw [hq] at yd
      simp only [Option.map_none] at yd
      clear hq
      subst yd
      go_wp2_with fail
      refine al (fun _=>(fun W9=>Below wr.heap.size wr W9)) (fun _ w1 w2=>Below w1.heap.size w1 w2) kZ kZ kZ jB.drew ?_
      simp only [ax,Act.put,sA,gs0,gs1,Nat.zero_add,Nat.reduceAdd]
      refine aa _ vp0 ?_
      refine aa _ vp0 ?_
      refine aa _ (vp1 1) ?_
      apply aa
      case h1 =>
       intro vs L9 w9 wK wI hB K9 wJ
       have d2:=fe hB 2
       simp only [d2] at wJ ⊢
       have q0:w9.cell? ⟨g8,0,none⟩=some (wG w0):=(wI.cell LW8.lt).trans c80
       simp only [Act.put,sA,gs0,gs1] at wJ
       go_simp
       exact wJ _ _ rfl wI jB
      refine aa _ vp0 ?_
      refine aa _ (vp1 4) ?_
      apply aa
      case h1 =>
       intro vs L9 w9 wK wI hB K9 wJ
       have d5:=fe hB 5
       simp only [d5] at wJ ⊢
       have q0:w9.cell? ⟨gN,0,none⟩=some (O U a0):=(wI.cell LN.lt).trans d0n
       simp only [Act.put,sA,gs0,gs1] at wJ
       go_simp
       exact wJ _ _ rfl wI jB
      refine sm0 [] (fun v _=>∃ s,v=.tuple #[wG s,.bool false]) (fun vs L9 w9 wK wI hB K9 wJ=>?_) ?_
      next =>
       have d0:=fe hB 0
       have d3:=fe hB 3
       have d6:=fe hB 6
       simp only [d0,d3,d6] at wJ ⊢
       simp only [Act.put,sA,gs0,gs1] at wJ
       go_simp
       refine (hc w9 (CB.below wI CB.lt) (Fo.then wI) (Dy.then wI)).mono ?_
       rintro en w8 ⟨⟨s,rfl⟩,wL⟩
       exact wJ _ _ _ rfl ⟨s,rfl⟩ (wI.trans (wL.mono wI.size)) (wL)
      refine sm0 [] (fun v _=>∃ s,v=wG s) (fun vs L9 w9 wK wI hB K9 wJ=>?_) ?_
      next =>
       simp only [Act.put,sA,gs0,gs1] at wJ
       obtain ⟨s,e0⟩:=fs hB 7
       simp only [e0] at wJ ⊢
       go_simp
       exact wJ _ _ _ rfl ⟨s,rfl⟩ wI jB
      refine aa (.bool false) (fun vs L9 w9 wK wI hB K9 wJ=>?_) ?_
      next =>
       obtain ⟨s,e0⟩:=fs hB 7
       simp only [e0] at wJ ⊢
       go_simp
       exact wJ _ _ rfl wI jB
      refine sm0 [] (fun v _=>∃ s,v=wG s) (fun vs L9 w9 wK wI hB K9 wJ=>?_) ?_
      next =>
       simp only [Act.put,sA,gs0,gs1] at wJ
       obtain ⟨s,e0⟩:=fs hB 8
       simp only [e0] at wJ ⊢
       go_simp
       exact wJ _ _ _ rfl ⟨s,rfl⟩ wI jB
      refine aa _ (vp1 9) ?_
      refine ar fun vs L9 w9 wS wI hB=>?_
      obtain ⟨s,dl⟩:=hB 10 _ rfl rfl dD
      have dm:=ag.eq (hB 11 _ rfl rfl dD)
      simp only [dl,dm]
      clear hB dl dm
      have Fq:=jZ (av HB.out wI)
      go_wp2_with fail
      go_ret2
      exact bL.no Fq.out
     | some rp =>
      have hc:∀ W,ai W g 42 [F x.TA x.t.length x.tc,F x.OA x.o.length x.oc,O U x.gt,O U x.sd,O U x.ms,wG l.D,wG l.P,O U l.n]→aQ W W.heap.size x→hQ W→Calls wH 98 #[.pointer (some ⟨g,0,none⟩),wG w0,O U a0] W fun e w'=>e=.returned (.tuple #[wG rp,.bool true])∧Below W.heap.size W w':=fun W hL hR hT=>by
       have:=tG x l w0 a0 g W hL hR G hT
       rw [hq] at this
       exact this.mono fun _ _ ⟨⟨s,h1,h3⟩,h2⟩=>⟨by rw [h1,h3 rp rfl]; rfl,h2⟩
      rw [hq] at yd
      simp only [Option.map_some] at yd
      clear hq
      subst yd
      go_wp2_with fail
      refine al (fun _=>(fun W9=>Below wr.heap.size wr W9)) (fun _ w1 w2=>Below w1.heap.size w1 w2) kZ kZ kZ jB.drew ?_
      simp only [ax,Act.put,sA,gs0,gs1,Nat.zero_add,Nat.reduceAdd]
      refine aa _ vp0 ?_
      refine aa _ vp0 ?_
      refine aa _ (vp1 1) ?_
      apply aa
      case h1 =>
       intro vs L9 w9 wK wI hB K9 wJ
       have d2:=fe hB 2
       simp only [d2] at wJ ⊢
       have q0:w9.cell? ⟨g8,0,none⟩=some (wG w0):=(wI.cell LW8.lt).trans c80
       simp only [Act.put,sA,gs0,gs1] at wJ
       go_simp
       exact wJ _ _ rfl wI jB
      refine aa _ vp0 ?_
      refine aa _ (vp1 4) ?_
      apply aa
      case h1 =>
       intro vs L9 w9 wK wI hB K9 wJ
       have d5:=fe hB 5
       simp only [d5] at wJ ⊢
       have q0:w9.cell? ⟨gN,0,none⟩=some (O U a0):=(wI.cell LN.lt).trans d0n
       simp only [Act.put,sA,gs0,gs1] at wJ
       go_simp
       exact wJ _ _ rfl wI jB
      refine aa (.tuple #[wG rp,.bool true]) (fun vs L9 w9 wK wI hB K9 wJ=>?_) ?_
      next =>
       have d0:=fe hB 0
       have d3:=fe hB 3
       have d6:=fe hB 6
       simp only [d0,d3,d6] at wJ ⊢
       go_simp
       refine (hc w9 (CB.below wI CB.lt) (Fo.then wI) (Dy.then wI)).mono ?_
       rintro en w8 ⟨rfl,wL⟩
       exact wJ _ _ rfl (wI.trans (wL.mono wI.size)) (wL)
      refine aa _ (vp1 7) ?_
      refine aa _ (vp1 7) ?_
      refine aa _ (vp1 8) ?_
      refine aa _ (vp1 9) ?_
      refine ar fun vs L9 w9 wS wI hB=>?_
      have dl:=ag.eq (hB 10 _ rfl rfl dD)
      have dm:=ag.eq (hB 11 _ rfl rfl dD)
      simp only [dl,dm]
      clear hB dl dm
      have Fq:=jZ (av HB.out wI)
      have Nn:=jZ (Eg.below wI)
      go_wp2_with fail
      go_ret2
      exact bL.yes rfl Nn.out (Fq.out.mono Dx) Fq.out.size (fun j hj _=>Fq.out.block j hj)
    by_cases e2:m.length=2
    ·have z0:((m.length:Int) == 0)=false:=beq_false_of_ne oM
     have z1:((m.length:Int) == 1)=false:=beq_false_of_ne oM
     have z2:((m.length:Int) == 2)=true:=by rw [e2]; rfl
     have z3:((m.length:Int) == 3)=false:=beq_false_of_ne oM
     obtain ⟨gN,cN,rN,hv,hgN,LN,_⟩:=ch zk oM
     injection hv with ea eb ec
     subst ea; subst ec
     clear eb
     have Ff:(0:Int) < (m.length:Int):=oM
     have yK:0 < m.length:=oM
     have hc:=rC x l w0 (some ⟨gN,0,none⟩) c m oM oM g W0 wr CB hB hb0r Fo (aw zk) (by intro e; injection e with e; have h1:=hgN; have h2:=Hi; simp only at e; omega) zS.tab
     subst yd
     rw [e2] at hc
     have HC:=jZ hc
     clear hc
     go_upto_region 18 with fail
     go_wp2_with fail
     refine HC.out.mono ?_
     rintro e w7 hG
     have hM:=bL.then HB.out Dx hG
     obtain ⟨s,b,rfl⟩:=hM.form
     have HM:=jZ hM
     clear hM hG
     go_wp2_with fail
     go_ret2
     exact HM.out
    by_cases e3:m.length=3
    ·have z0:((m.length:Int) == 0)=false:=beq_false_of_ne oM
     have z1:((m.length:Int) == 1)=false:=beq_false_of_ne oM
     have z2:((m.length:Int) == 2)=false:=beq_false_of_ne oM
     have z3:((m.length:Int) == 3)=true:=by rw [e3]; rfl
     obtain ⟨gN,cN,rN,hv,hgN,LN,_⟩:=ch zk oM
     injection hv with ea eb ec
     subst ea; subst ec
     clear eb
     have Ff:(0:Int) < (m.length:Int):=oM
     have yK:0 < m.length:=oM
     have hc:=rC x l w0 (some ⟨gN,0,none⟩) c m oM oM g W0 wr CB hB hb0r Fo (aw zk) (by intro e; injection e with e; have h1:=hgN; have h2:=Hi; simp only at e; omega) zS.tab
     subst yd
     rw [e3] at hc
     have HC:=jZ hc
     clear hc
     go_upto_region 18 with fail
     go_wp2_with fail
     refine HC.out.mono ?_
     rintro e w7 hG
     have hM:=bL.then HB.out Dx hG
     obtain ⟨s,b,rfl⟩:=hM.form
     have HM:=jZ hM
     clear hM hG
     go_wp2_with fail
     go_ret2
     exact HM.out
    have z0:((m.length:Int) == 0)=false:=beq_false_of_ne oM
    have z1:((m.length:Int) == 1)=false:=beq_false_of_ne oM
    have z2:((m.length:Int) == 2)=false:=beq_false_of_ne oM
    have z3:((m.length:Int) == 3)=false:=beq_false_of_ne oM
    rw [ru oM] at yd
    subst yd
    go_wp2_with fail
    go_ret2
    exact bL.no HB.out
def tH:Option (Oc × ByteArray)→ByteArray
 | none=>⟨#[63]⟩
 | some r=>if 200 < r.2.size then ⟨#[108,111,110,103]⟩ else r.2
theorem tI (x:aO) (line:ByteArray):jl x line=tH (iZ x line):=by unfold jl; cases iZ x line <;> rfl
theorem tJ (x:aO) (line:ByteArray):rn x line=fF x (iZ x line):=by unfold rn; cases iZ x line <;> rfl
theorem oD (R:Option (Oc × ByteArray)):(tH R).size≤200:=by
 cases R with
 | none=>show (1:Nat)≤200; omega
 | some r =>
  unfold tH; simp only
  split
  ·show (4:Nat)≤200; omega
  ·omega
theorem oE {w w' : World} {g b:Nat} {t:TypeId} {cs:List Value} (h:∀ j,j < w.heap.size→j ≠ g→w'.heap[j]?=w.heap[j]?) (hL:ai w b t cs) (wT:b ≠ g):ai w' b t cs:=(h b hL.lt wT).trans hL
set_option maxRecDepth 100000 in
theorem uF (x:aO) (l:Lg) (line:ByteArray) (w:World) (h:aQ w w.heap.size x) (tl:x.t.length≤1048576) (ol:x.o.length≤1048576) (hs:l.D.size+l.P.size≤2000000) (zc:line.size≤1048576) (zS:LW w) (wP:dx x l=false) :
  Calls wH 16 #[aJ x l,wG line] w (db w x l line):=by
 have L1:=(ai.new w 42 #[F x.TA x.t.length x.tc,F x.OA x.o.length x.oc,O U x.gt,O U x.sd,O U x.ms,wG l.D,wG l.P,O U l.n]).alloc (.cells #[F none 0 0,F none 0 0,O U 0,O U 0,O U 0,wG ⟨#[]⟩,wG ⟨#[]⟩,O U 0] 42)
 have L2:=ai.new1 w (.cells #[F x.TA x.t.length x.tc,F x.OA x.o.length x.oc,O U x.gt,O U x.sd,O U x.ms,wG l.D,wG l.P,O U l.n] 42) 42 #[F none 0 0,F none 0 0,O U 0,O U 0,O U 0,wG ⟨#[]⟩,wG ⟨#[]⟩,O U 0]
 have b1:=bZ w (.cells #[F x.TA x.t.length x.tc,F x.OA x.o.length x.oc,O U x.gt,O U x.sd,O U x.ms,wG l.D,wG l.P,O U l.n] 42)
 have b2:=b1.alloc b1.size (.cells #[F none 0 0,F none 0 0,O U 0,O U 0,O U 0,wG ⟨#[]⟩,wG ⟨#[]⟩,O U 0] 42)
 have hW:=h.up b2 nR
 have xq:w.heap.size≤w.heap.size+1:=oM
 clear b1 h
 go_enter Tryz.func16,Tryz.ntmps16
 go_wp2_with fail
 generalize ((w.alloc (.cells #[F x.TA x.t.length x.tc,F x.OA x.o.length x.oc,O U x.gt,O U x.sd,O U x.ms,wG l.D,wG l.P,O U l.n] 42)).alloc (.cells #[F none 0 0,F none 0 0,O U 0,O U 0,O U 0,wG ⟨#[]⟩,wG ⟨#[]⟩,O U 0] 42))=W at L1 L2 b2 hW ⊢
 refine (dK x l W hW hs (zS.then b2).tab).mono ?_
 rintro e W3 ⟨rfl,wZ⟩
 have K1:=L1.below wZ L1.lt
 have K2:=L2.below wZ L2.lt
 have b5:=b2.trans (wZ.mono b2.size)
 have xH:=hW.then wZ
 clear wZ L1 L2 b2 hW
 rw [wP]
 go_wp2_with fail
 refine (fI x l w.heap.size W3 K1 xH tl ol).mono ?_
 rintro e W9 ⟨v,rfl,⟨TA,tc,OA,oc,rfl,zd,zo⟩,hb9⟩
 have Q2:=K2.below hb9 K2.lt
 have b9:=b5.trans (hb9.mono b5.size)
 have xR:=ah zd b5.size
 have xp:=ah zo b5.size
 obtain ⟨z0,z1,z2,z3,z4,z5,z6,z7⟩:=cells8 Q2
 obtain ⟨f0,f1,f2,f3,f4,f5,f6,f7⟩:=frz8 Q2
 obtain ⟨xt,xm⟩:=dt (F TA x.c.t.length tc) (F OA x.c.o.length oc) (O U x.c.gt) (O U x.c.sd) (O U x.c.ms) (wG l.D) (wG l.P) (O U l.n) Q2 xR xp
 have bz:=jZ (eX (g:=w.heap.size+1) (b9) xq (F TA x.c.t.length tc) (F OA x.c.o.length oc) (O U x.c.gt) (O U x.c.sd) (O U x.c.ms) (wG l.D) (wG l.P) (O U l.n))
 have Do:=jZ xt
 have Co:=jZ xm
 clear K1 K2 Q2 b5 b9 hb9 zd zo xR xp xH xt xm
 go_wp2_with fail
 refine bodyPost_ret (v:=.tuple #[.agg #[F TA x.c.t.length tc,F OA x.c.o.length oc,O U x.c.gt,O U x.c.sd,O U x.c.ms,wG l.D,wG l.P,O U l.n],wG ⟨#[110,111]⟩]) (by simp [results,Tryz.results16,go_sem, *]) rfl (db.mk (by unfold gw; rw [if_neg (by rw [wP]; exact Bool.false_ne_true)]) (by unfold fD; rw [if_neg (by rw [wP]; exact Bool.false_ne_true)]) (by unfold fS; rw [if_neg (by rw [wP]; exact Bool.false_ne_true)]) ⟨TA,tc,OA,oc,rfl,Do.out,Co.out⟩ bz.out)
set_option maxRecDepth 100000 in
theorem sR (x:aO) (l:Lg) (line:ByteArray) (w:World) (h:aQ w w.heap.size x) (tl:x.t.length≤1048576) (ol:x.o.length≤1048576) (hs:l.D.size+l.P.size≤2000000) (zc:line.size≤1048576) (zS:LW w) (wP:dx x l=true) (yl:dA.ok ⟨line,⟨#[]⟩⟩=false) :
  Calls wH 16 #[aJ x l,wG line] w (db w x l line):=by
 have L1:=(ai.new w 42 #[F x.TA x.t.length x.tc,F x.OA x.o.length x.oc,O U x.gt,O U x.sd,O U x.ms,wG l.D,wG l.P,O U l.n]).alloc (.cells #[F none 0 0,F none 0 0,O U 0,O U 0,O U 0,wG ⟨#[]⟩,wG ⟨#[]⟩,O U 0] 42)
 have L2:=ai.new1 w (.cells #[F x.TA x.t.length x.tc,F x.OA x.o.length x.oc,O U x.gt,O U x.sd,O U x.ms,wG l.D,wG l.P,O U l.n] 42) 42 #[F none 0 0,F none 0 0,O U 0,O U 0,O U 0,wG ⟨#[]⟩,wG ⟨#[]⟩,O U 0]
 have b1:=bZ w (.cells #[F x.TA x.t.length x.tc,F x.OA x.o.length x.oc,O U x.gt,O U x.sd,O U x.ms,wG l.D,wG l.P,O U l.n] 42)
 have b2:=b1.alloc b1.size (.cells #[F none 0 0,F none 0 0,O U 0,O U 0,O U 0,wG ⟨#[]⟩,wG ⟨#[]⟩,O U 0] 42)
 have hW:=h.up b2 nR
 have xq:w.heap.size≤w.heap.size+1:=oM
 clear b1 h
 go_enter Tryz.func16,Tryz.ntmps16
 go_wp2_with fail
 generalize ((w.alloc (.cells #[F x.TA x.t.length x.tc,F x.OA x.o.length x.oc,O U x.gt,O U x.sd,O U x.ms,wG l.D,wG l.P,O U l.n] 42)).alloc (.cells #[F none 0 0,F none 0 0,O U 0,O U 0,O U 0,wG ⟨#[]⟩,wG ⟨#[]⟩,O U 0] 42))=W at L1 L2 b2 hW ⊢
 refine (dK x l W hW hs (zS.then b2).tab).mono ?_
 rintro e W3 ⟨rfl,wZ⟩
 have K1:=L1.below wZ L1.lt
 have K2:=L2.below wZ L2.lt
 have b5:=b2.trans (wZ.mono b2.size)
 have xH:=hW.then wZ
 clear wZ L1 L2 b2 hW
 rw [wP]
 go_wp2_with fail
 refine (fx ⟨line,⟨#[]⟩⟩ W3 (jT zc dD) (show (0:Nat)≤1000000000 by omega)).mono ?_
 rintro e W4 ⟨rfl,wV⟩
 have N1:=K1.below wV K1.lt
 have N2:=K2.below wV K2.lt
 have b6:=b5.trans (wV.mono b5.size)
 have xU:=xH.then wV
 clear wV K1 K2 b5 xH
 rw [yl]
 go_wp2_with fail
 refine (fI x l w.heap.size W4 N1 xU tl ol).mono ?_
 rintro e W9 ⟨v,rfl,⟨TA,tc,OA,oc,rfl,zd,zo⟩,hb9⟩
 have Q2:=N2.below hb9 N2.lt
 have b9:=b6.trans (hb9.mono b6.size)
 have xR:=ah zd b6.size
 have xp:=ah zo b6.size
 obtain ⟨z0,z1,z2,z3,z4,z5,z6,z7⟩:=cells8 Q2
 obtain ⟨f0,f1,f2,f3,f4,f5,f6,f7⟩:=frz8 Q2
 obtain ⟨xt,xm⟩:=dt (F TA x.c.t.length tc) (F OA x.c.o.length oc) (O U x.c.gt) (O U x.c.sd) (O U x.c.ms) (wG l.D) (wG l.P) (O U l.n) Q2 xR xp
 have bz:=jZ (eX (g:=w.heap.size+1) (b9) xq (F TA x.c.t.length tc) (F OA x.c.o.length oc) (O U x.c.gt) (O U x.c.sd) (O U x.c.ms) (wG l.D) (wG l.P) (O U l.n))
 have Do:=jZ xt
 have Co:=jZ xm
 clear N1 N2 Q2 b6 b9 hb9 zd zo xR xp xU xt xm
 go_wp2_with fail
 refine bodyPost_ret (v:=.tuple #[.agg #[F TA x.c.t.length tc,F OA x.c.o.length oc,O U x.c.gt,O U x.c.sd,O U x.c.ms,wG l.D,wG l.P,O U l.n],wG ⟨#[98,97,100]⟩]) (by simp [results,Tryz.results16,go_sem, *]) rfl (db.mk (by unfold gw; rw [if_pos wP,if_neg (by rw [yl]; exact Bool.false_ne_true)]) (by unfold fD; rw [if_pos wP,if_neg (by rw [yl]; exact Bool.false_ne_true)]) (by unfold fS; rw [if_pos wP,if_neg (by rw [yl]; exact Bool.false_ne_true)]) ⟨TA,tc,OA,oc,rfl,Do.out,Co.out⟩ bz.out)
set_option maxRecDepth 100000 in
theorem rE (x:aO) (l:Lg) (line:ByteArray) (w:World) (h:aQ w w.heap.size x) (tl:x.t.length≤1048576) (ol:x.o.length≤1048576) (hs:l.D.size+l.P.size≤2000000) (zc:line.size≤1048576) (zS:LW w) (wP:dx x l=true) (yl:dA.ok ⟨line,⟨#[]⟩⟩=true) (hn:l.n=60) :
  Calls wH 16 #[aJ x l,wG line] w (db w x l line):=by
 have wT:(l.n == 60)=true:=by rw [hn]; rfl
 have HN:=jZ hn
 clear hn
 have L1:=(ai.new w 42 #[F x.TA x.t.length x.tc,F x.OA x.o.length x.oc,O U x.gt,O U x.sd,O U x.ms,wG l.D,wG l.P,O U l.n]).alloc (.cells #[F none 0 0,F none 0 0,O U 0,O U 0,O U 0,wG ⟨#[]⟩,wG ⟨#[]⟩,O U 0] 42)
 have L2:=ai.new1 w (.cells #[F x.TA x.t.length x.tc,F x.OA x.o.length x.oc,O U x.gt,O U x.sd,O U x.ms,wG l.D,wG l.P,O U l.n] 42) 42 #[F none 0 0,F none 0 0,O U 0,O U 0,O U 0,wG ⟨#[]⟩,wG ⟨#[]⟩,O U 0]
 have b1:=bZ w (.cells #[F x.TA x.t.length x.tc,F x.OA x.o.length x.oc,O U x.gt,O U x.sd,O U x.ms,wG l.D,wG l.P,O U l.n] 42)
 have b2:=b1.alloc b1.size (.cells #[F none 0 0,F none 0 0,O U 0,O U 0,O U 0,wG ⟨#[]⟩,wG ⟨#[]⟩,O U 0] 42)
 have hW:=h.up b2 nR
 have xq:w.heap.size≤w.heap.size+1:=oM
 clear b1 h
 go_enter Tryz.func16,Tryz.ntmps16
 go_wp2_with fail
 generalize ((w.alloc (.cells #[F x.TA x.t.length x.tc,F x.OA x.o.length x.oc,O U x.gt,O U x.sd,O U x.ms,wG l.D,wG l.P,O U l.n] 42)).alloc (.cells #[F none 0 0,F none 0 0,O U 0,O U 0,O U 0,wG ⟨#[]⟩,wG ⟨#[]⟩,O U 0] 42))=W at L1 L2 b2 hW ⊢
 refine (dK x l W hW hs (zS.then b2).tab).mono ?_
 rintro e W3 ⟨rfl,wZ⟩
 have K1:=L1.below wZ L1.lt
 have K2:=L2.below wZ L2.lt
 have b5:=b2.trans (wZ.mono b2.size)
 have xH:=hW.then wZ
 clear wZ L1 L2 b2 hW
 rw [wP]
 go_wp2_with fail
 refine (fx ⟨line,⟨#[]⟩⟩ W3 (jT zc dD) (show (0:Nat)≤1000000000 by omega)).mono ?_
 rintro e W4 ⟨rfl,wV⟩
 have N1:=K1.below wV K1.lt
 have N2:=K2.below wV K2.lt
 have b6:=b5.trans (wV.mono b5.size)
 have xU:=xH.then wV
 clear wV K1 K2 b5 xH
 rw [yl]
 obtain ⟨c0,c1,c2,c3,c4,c5,c6,c7⟩:=cells8 N1
 go_wp2_with fail
 refine (fI x l w.heap.size W4 N1 xU tl ol).mono ?_
 clear c0 c1 c2 c3 c4 c5 c6 c7
 rintro e W9 ⟨v,rfl,⟨TA,tc,OA,oc,rfl,zd,zo⟩,hb9⟩
 have Q2:=N2.below hb9 N2.lt
 have b9:=b6.trans (hb9.mono b6.size)
 have xR:=ah zd b6.size
 have xp:=ah zo b6.size
 obtain ⟨z0,z1,z2,z3,z4,z5,z6,z7⟩:=cells8 Q2
 obtain ⟨f0,f1,f2,f3,f4,f5,f6,f7⟩:=frz8 Q2
 obtain ⟨xt,xm⟩:=dt (F TA x.c.t.length tc) (F OA x.c.o.length oc) (O U x.c.gt) (O U x.c.sd) (O U x.c.ms) (wG l.D) (wG l.P) (O U l.n) Q2 xR xp
 have bz:=jZ (eX (g:=w.heap.size+1) (b9) xq (F TA x.c.t.length tc) (F OA x.c.o.length oc) (O U x.c.gt) (O U x.c.sd) (O U x.c.ms) (wG l.D) (wG l.P) (O U l.n))
 have Do:=jZ xt
 have Co:=jZ xm
 clear N1 N2 Q2 b6 b9 hb9 zd zo xR xp xU xt xm
 go_wp2_with fail
 refine bodyPost_ret (v:=.tuple #[.agg #[F TA x.c.t.length tc,F OA x.c.o.length oc,O U x.c.gt,O U x.c.sd,O U x.c.ms,wG l.D,wG l.P,O U l.n],wG ⟨#[102,117,108,108]⟩]) (by simp [results,Tryz.results16,go_sem, *]) rfl (db.mk (by unfold gw; rw [if_pos wP,if_pos yl,if_pos HN.out]) (by unfold fD; rw [if_pos wP,if_pos yl,if_pos HN.out]) (by unfold fS; rw [if_pos wP,if_pos yl,if_pos HN.out]) ⟨TA,tc,OA,oc,rfl,Do.out,Co.out⟩ bz.out)
set_option maxRecDepth 100000 in
theorem sS (x:aO) (l:Lg) (line:ByteArray) (w:World) (h:aQ w w.heap.size x) (tl:x.t.length≤1048576) (ol:x.o.length≤1048576) (hs:l.D.size+l.P.size≤2000000) (zc:line.size≤1048576) (zS:LW w) (wP:dx x l=true) (yl:dA.ok ⟨line,⟨#[]⟩⟩=true) (hn : ¬ l.n=60) :
  Calls wH 16 #[aJ x l,wG line] w (db w x l line):=by
 have wT:(l.n == 60)=false:=beq_false_of_ne hn
 have G:=jK wP
 have hl160:line.size≤1000:=by
  have h1:=(de.1 yl).2.1
  have h2:line.size≤160:=h1
  omega
 have Fg:gw x l line=jl x line:=by unfold gw; rw [if_pos wP,if_pos yl,if_neg hn]
 have FO:fD x l line=rn x line:=by unfold fD; rw [if_pos wP,if_pos yl,if_neg hn]
 have DY:fS x l line=cH l ⟨line,jl x line⟩:=by unfold fS; rw [if_pos wP,if_pos yl,if_neg hn]
 obtain ⟨R,hR⟩ : ∃ R,iZ x line=R:=⟨_,rfl⟩
 have AS:jl x line=tH R:=by rw [← hR]; exact tI x line
 have At:rn x line=fF x R:=by rw [← hR]; exact tJ x line
 obtain ⟨rep,BE⟩ : ∃ rep,jl x line=rep:=⟨_,rfl⟩
 have Dg:rep.size≤200:=by rw [← BE,AS]; exact oD R
 obtain ⟨l2,y7⟩ : ∃ l2,cH l ⟨line,rep⟩=l2:=⟨_,rfl⟩
 have cA:=fun W hW=>oe l ⟨line,rep⟩ W hs (jT hl160 dD) (jT Dg dD) hW
 rw [BE] at Fg DY AS
 rw [y7] at cA DY
 have ET:=jZ Fg
 rw [At] at FO
 have EO0:=jZ FO
 have EL:=jZ DY
 have HC:=jZ hR
 clear hn Fg FO DY At BE y7 hR
 have L1:=(ai.new w 42 #[F x.TA x.t.length x.tc,F x.OA x.o.length x.oc,O U x.gt,O U x.sd,O U x.ms,wG l.D,wG l.P,O U l.n]).alloc (.cells #[F none 0 0,F none 0 0,O U 0,O U 0,O U 0,wG ⟨#[]⟩,wG ⟨#[]⟩,O U 0] 42)
 have L2:=ai.new1 w (.cells #[F x.TA x.t.length x.tc,F x.OA x.o.length x.oc,O U x.gt,O U x.sd,O U x.ms,wG l.D,wG l.P,O U l.n] 42) 42 #[F none 0 0,F none 0 0,O U 0,O U 0,O U 0,wG ⟨#[]⟩,wG ⟨#[]⟩,O U 0]
 have b1:=bZ w (.cells #[F x.TA x.t.length x.tc,F x.OA x.o.length x.oc,O U x.gt,O U x.sd,O U x.ms,wG l.D,wG l.P,O U l.n] 42)
 have b2:=b1.alloc b1.size (.cells #[F none 0 0,F none 0 0,O U 0,O U 0,O U 0,wG ⟨#[]⟩,wG ⟨#[]⟩,O U 0] 42)
 have hW:=h.up b2 nR
 have xq:w.heap.size≤w.heap.size+1:=oM
 clear b1 h
 go_enter Tryz.func16,Tryz.ntmps16
 go_wp2_with fail
 generalize ((w.alloc (.cells #[F x.TA x.t.length x.tc,F x.OA x.o.length x.oc,O U x.gt,O U x.sd,O U x.ms,wG l.D,wG l.P,O U l.n] 42)).alloc (.cells #[F none 0 0,F none 0 0,O U 0,O U 0,O U 0,wG ⟨#[]⟩,wG ⟨#[]⟩,O U 0] 42))=W at L1 L2 b2 hW ⊢
 refine (dK x l W hW hs (zS.then b2).tab).mono ?_
 rintro e W3 ⟨rfl,wZ⟩
 have K1:=L1.below wZ L1.lt
 have K2:=L2.below wZ L2.lt
 have b5:=b2.trans (wZ.mono b2.size)
 have xH:=hW.then wZ
 clear wZ L1 L2 b2 hW
 rw [wP]
 go_wp2_with fail
 refine (fx ⟨line,⟨#[]⟩⟩ W3 (jT zc dD) (show (0:Nat)≤1000000000 by omega)).mono ?_
 rintro e W4 ⟨rfl,wV⟩
 have N1:=K1.below wV K1.lt
 have N2:=K2.below wV K2.lt
 have b6:=b5.trans (wV.mono b5.size)
 have xU:=xH.then wV
 clear wV K1 K2 b5 xH
 rw [yl]
 obtain ⟨c0,c1,c2,c3,c4,c5,c6,c7⟩:=cells8 N1
 go_wp2_with fail
 refine (fI x l w.heap.size W4 N1 xU tl ol).mono ?_
 rintro e W5 ⟨v,rfl,⟨TA,tc,OA,oc,rfl,zd,zo⟩,hb5⟩
 clear c0 c1 c2 c3 c4 c5 c6 c7
 go_upto_region 8 with fail
 have wO:=(Below.refl W5.heap.size W5).alloc nR (.cells #[F TA x.c.t.length tc,F OA x.c.o.length oc,O U x.c.gt,O U x.c.sd,O U x.c.ms,wG l.D,wG l.P,O U l.n] 42)
 have xn:=av hb5 wO
 have J1:=N1.below xn N1.lt
 have J2:=N2.below xn N2.lt
 have J6:=ai.new W5 42 #[F TA x.c.t.length tc,F OA x.c.o.length oc,O U x.c.gt,O U x.c.sd,O U x.c.ms,wG l.D,wG l.P,O U l.n]
 have b7:=b6.trans (xn.mono b6.size)
 have yp:=ah (ac zd wO) b6.size
 have yq:=ah (ac zo wO) b6.size
 have hg26:w.heap.size+1 < W5.heap.size:=jL N2.lt hb5.size
 clear wO xn hb5 zd zo N1 N2 b6 xU
 generalize W5.alloc (.cells #[F TA x.c.t.length tc,F OA x.c.o.length oc,O U x.c.gt,O U x.c.sd,O U x.c.ms,wG l.D,wG l.P,O U l.n] 42)=W6 at J1 J2 J6 b7 yp yq ⊢
 generalize W5.heap.size=g6 at J6 hg26 ⊢
 have yS:w.heap.size≤g6:=oM
 have DZ:(x.c.at TA tc OA oc).c=x.c:=rfl
 have xz:=rD (x.c.at TA tc OA oc) l line g6 w W6 J6 yS b7 yp yq (good_c DZ G) hl160 zS
 rw [vu DZ,HC.out] at xz
 go_wp2_with fail
 refine xz.mono ?_
 rintro e W7 hM
 clear xz
 rcases hM with ⟨rfl,⟨s,rfl⟩,yJ⟩ | ⟨z,r,rfl,rfl,Ah,yJ,Ol,Kg⟩
 ·have K1:=J1.below yJ J1.lt
  have K2:=J2.below yJ J2.lt
  have K6:=J6.below yJ J6.lt
  have b8:=b7.trans (yJ.mono b7.size)
  have zA:=ac yp yJ
  have xi:=ac yq yJ
  clear J1 J2 J6 b7 yp yq yJ
  have Ar:=EO0.out
  change fD x l line=x.c at Ar
  change rep=⟨#[63]⟩ at AS
  subst AS
  clear EO0
  obtain ⟨y,hy⟩ : ∃ y,x.c=y:=⟨_,rfl⟩
  rw [hy] at K6 zA xi Ar
  have EO:=jZ Ar
  clear Ar
  obtain ⟨TB,Fr⟩ : ∃ TB,TA=TB:=⟨_,rfl⟩
  obtain ⟨tb,Fs⟩ : ∃ tb,tc=tb:=⟨_,rfl⟩
  obtain ⟨OB,Ft⟩ : ∃ OB,OA=OB:=⟨_,rfl⟩
  obtain ⟨ob,Fu⟩ : ∃ ob,oc=ob:=⟨_,rfl⟩
  rw [Fr,Fs,Ft,Fu] at K6
  rw [Fr,Fs] at zA
  rw [Ft,Fu] at xi
  clear hy Fr Fs Ft Fu DZ
  obtain ⟨cod,zQ⟩ : ∃ cod,dZ l ⟨line,⟨#[63]⟩⟩=cod:=⟨_,rfl⟩
  rw [zQ] at cA
  clear zQ
  have htW:=(zS.then b8).tab
  obtain ⟨c0,c1,c2,c3,c4,c5,c6,c7⟩:=cells8 K1
  go_wp2_with fail
  refine (cA W7 htW).mono ?_
  rintro e W9 ⟨rfl,hb9⟩
  have Q1:=K1.below hb9 K1.lt
  have Q2:=K2.below hb9 K2.lt
  have Q6:=K6.below hb9 K6.lt
  have b10:=b8.trans (hb9.mono b8.size)
  have yO:=ac zA hb9
  have yf:=ac xi hb9
  have gr9:W9.grownBy (((W9.setCell ⟨g6,5,none⟩ (wG l2.D)).setCell ⟨g6,6,none⟩ (wG l2.P)).setCell ⟨g6,7,none⟩ (O U l2.n)) (some g6):=ab (g:=g6) (i:=7) (u:=O U l2.n) (ab (g:=g6) (i:=6) (u:=wG l2.P) (ab (g:=g6) (i:=5) (u:=wG l2.D) (World.grownBy.refl W9 (some g6))))
  have Ao:=ak yO Q6 fj gr9
  have Ap:=ak yf Q6 fk gr9
  have R2:ai (((W9.setCell ⟨g6,5,none⟩ (wG l2.D)).setCell ⟨g6,6,none⟩ (wG l2.P)).setCell ⟨g6,7,none⟩ (O U l2.n)) (w.heap.size+1) 42 [F none 0 0,F none 0 0,O U 0,O U 0,O U 0,wG ⟨#[]⟩,wG ⟨#[]⟩,O U 0]:=(((Q2).other (p:=⟨g6,5,none⟩) (by simp only; omega) (wG l2.D)).other (p:=⟨g6,6,none⟩) (by simp only; omega) (wG l2.P)).other (p:=⟨g6,7,none⟩) (by simp only; omega) (O U l2.n)
  have R6:ai (((W9.setCell ⟨g6,5,none⟩ (wG l2.D)).setCell ⟨g6,6,none⟩ (wG l2.P)).setCell ⟨g6,7,none⟩ (O U l2.n)) g6 42 [F TB y.t.length tb,F OB y.o.length ob,O U y.gt,O U y.sd,O U y.ms,wG l2.D,wG l2.P,O U l2.n]:=(((Q6).set 5 (wG l2.D)).set 6 (wG l2.P)).set 7 (O U l2.n)
  have b11:=(((b10).setCell (p:=⟨g6,5,none⟩) yS (wG l2.D)).setCell (p:=⟨g6,6,none⟩) yS (wG l2.P)).setCell (p:=⟨g6,7,none⟩) yS (O U l2.n)
  obtain ⟨z0,z1,z2,z3,z4,z5,z6,z7⟩:=cells8 Q6
  obtain ⟨f0,f1,f2,f3,f4,f5,f6,f7⟩:=frz8 Q6
  clear K1 K2 Q1 Q2 hb9 b8 b10 yO yf zA xi gr9 c0 c1 c2 c3 c4 c5 c6 c7
  go_upto_region 14 with fail
  clear K6 Q6 z0 z1 z2 z3 z4 z5 z6 z7 f0 f1 f2 f3 f4 f5 f6 f7
  generalize (((W9.setCell ⟨g6,5,none⟩ (wG l2.D)).setCell ⟨g6,6,none⟩ (wG l2.P)).setCell ⟨g6,7,none⟩ (O U l2.n))=WB at R2 R6 b11 Ao Ap ⊢
  obtain ⟨p0,p1,p2,p3,p4,p5,p6,p7⟩:=cells8 R6
  obtain ⟨z0,z1,z2,z3,z4,z5,z6,z7⟩:=cells8 R2
  obtain ⟨f0,f1,f2,f3,f4,f5,f6,f7⟩:=frz8 R2
  obtain ⟨BU,BV⟩:=dt (F TB y.t.length tb) (F OB y.o.length ob) (O U y.gt) (O U y.sd) (O U y.ms) (wG l2.D) (wG l2.P) (O U l2.n) R2 Ao Ap
  have bz:=jZ (eX (g:=w.heap.size+1) (b11) xq (F TB y.t.length tb) (F OB y.o.length ob) (O U y.gt) (O U y.sd) (O U y.ms) (wG l2.D) (wG l2.P) (O U l2.n))
  have Ea:=jZ BU
  have Eb:=jZ BV
  clear R2 R6 b11 Ao Ap BU BV
  go_wp2_with fail
  refine bodyPost_ret (v:=.tuple #[.agg #[F TB y.t.length tb,F OB y.o.length ob,O U y.gt,O U y.sd,O U y.ms,wG l2.D,wG l2.P,O U l2.n],wG ⟨#[63]⟩]) (by simp [results,Tryz.results16,go_sem, *]) rfl (db.mk ET.out EO.out EL.out ⟨TB,tb,OB,ob,rfl,Ea.out,Eb.out⟩ bz.out)
 ·obtain ⟨TB,tb,OB,ob,K6,zA,xi⟩:=Ah
  have K1:=oE Kg J1 oM
  have K2:=oE Kg J2 oM
  have b8:=b7.trans yJ
  clear J1 J2 J6 b7 yp yq yJ Kg
  have Ar:=EO0.out
  change fD x l line=z at Ar
  change rep=(if 200 < r.size then ⟨#[108,111,110,103]⟩ else r) at AS
  clear EO0
  obtain ⟨y,hy⟩ : ∃ y,z=y:=⟨_,rfl⟩
  rw [hy] at K6 zA xi Ar
  have EO:=jZ Ar
  clear hy DZ Ar
  by_cases hlong:200 < r.size
  ·have JU:(200:Int) < (r.size:Int):=oM
   rw [if_pos hlong] at AS
   subst AS
   obtain ⟨cod,zQ⟩ : ∃ cod,dZ l ⟨line,⟨#[108,111,110,103]⟩⟩=cod:=⟨_,rfl⟩
   rw [zQ] at cA
   clear zQ
   have htW:=(zS.then b8).tab
   obtain ⟨c0,c1,c2,c3,c4,c5,c6,c7⟩:=cells8 K1
   go_wp2_with fail
   refine (cA W7 htW).mono ?_
   rintro e W9 ⟨rfl,hb9⟩
   have Q1:=K1.below hb9 K1.lt
   have Q2:=K2.below hb9 K2.lt
   have Q6:=K6.below hb9 K6.lt
   have b10:=b8.trans (hb9.mono b8.size)
   have yO:=ac zA hb9
   have yf:=ac xi hb9
   have gr9:W9.grownBy (((W9.setCell ⟨g6,5,none⟩ (wG l2.D)).setCell ⟨g6,6,none⟩ (wG l2.P)).setCell ⟨g6,7,none⟩ (O U l2.n)) (some g6):=ab (g:=g6) (i:=7) (u:=O U l2.n) (ab (g:=g6) (i:=6) (u:=wG l2.P) (ab (g:=g6) (i:=5) (u:=wG l2.D) (World.grownBy.refl W9 (some g6))))
   have Ao:=ak yO Q6 fj gr9
   have Ap:=ak yf Q6 fk gr9
   have R2:ai (((W9.setCell ⟨g6,5,none⟩ (wG l2.D)).setCell ⟨g6,6,none⟩ (wG l2.P)).setCell ⟨g6,7,none⟩ (O U l2.n)) (w.heap.size+1) 42 [F none 0 0,F none 0 0,O U 0,O U 0,O U 0,wG ⟨#[]⟩,wG ⟨#[]⟩,O U 0]:=(((Q2).other (p:=⟨g6,5,none⟩) (by simp only; omega) (wG l2.D)).other (p:=⟨g6,6,none⟩) (by simp only; omega) (wG l2.P)).other (p:=⟨g6,7,none⟩) (by simp only; omega) (O U l2.n)
   have R6:ai (((W9.setCell ⟨g6,5,none⟩ (wG l2.D)).setCell ⟨g6,6,none⟩ (wG l2.P)).setCell ⟨g6,7,none⟩ (O U l2.n)) g6 42 [F TB y.t.length tb,F OB y.o.length ob,O U y.gt,O U y.sd,O U y.ms,wG l2.D,wG l2.P,O U l2.n]:=(((Q6).set 5 (wG l2.D)).set 6 (wG l2.P)).set 7 (O U l2.n)
   have b11:=(((b10).setCell (p:=⟨g6,5,none⟩) yS (wG l2.D)).setCell (p:=⟨g6,6,none⟩) yS (wG l2.P)).setCell (p:=⟨g6,7,none⟩) yS (O U l2.n)
   obtain ⟨z0,z1,z2,z3,z4,z5,z6,z7⟩:=cells8 Q6
   obtain ⟨f0,f1,f2,f3,f4,f5,f6,f7⟩:=frz8 Q6
   clear K1 K2 Q1 Q2 hb9 b8 b10 yO yf zA xi gr9 c0 c1 c2 c3 c4 c5 c6 c7
   go_upto_region 14 with fail
   clear K6 Q6 z0 z1 z2 z3 z4 z5 z6 z7 f0 f1 f2 f3 f4 f5 f6 f7
   generalize (((W9.setCell ⟨g6,5,none⟩ (wG l2.D)).setCell ⟨g6,6,none⟩ (wG l2.P)).setCell ⟨g6,7,none⟩ (O U l2.n))=WB at R2 R6 b11 Ao Ap ⊢
   obtain ⟨p0,p1,p2,p3,p4,p5,p6,p7⟩:=cells8 R6
   obtain ⟨z0,z1,z2,z3,z4,z5,z6,z7⟩:=cells8 R2
   obtain ⟨f0,f1,f2,f3,f4,f5,f6,f7⟩:=frz8 R2
   obtain ⟨BU,BV⟩:=dt (F TB y.t.length tb) (F OB y.o.length ob) (O U y.gt) (O U y.sd) (O U y.ms) (wG l2.D) (wG l2.P) (O U l2.n) R2 Ao Ap
   have bz:=jZ (eX (g:=w.heap.size+1) (b11) xq (F TB y.t.length tb) (F OB y.o.length ob) (O U y.gt) (O U y.sd) (O U y.ms) (wG l2.D) (wG l2.P) (O U l2.n))
   have Ea:=jZ BU
   have Eb:=jZ BV
   clear R2 R6 b11 Ao Ap BU BV
   go_wp2_with fail
   refine bodyPost_ret (v:=.tuple #[.agg #[F TB y.t.length tb,F OB y.o.length ob,O U y.gt,O U y.sd,O U y.ms,wG l2.D,wG l2.P,O U l2.n],wG ⟨#[108,111,110,103]⟩]) (by simp [results,Tryz.results16,go_sem, *]) rfl (db.mk ET.out EO.out EL.out ⟨TB,tb,OB,ob,rfl,Ea.out,Eb.out⟩ bz.out)
  ·have JU : ¬ (200:Int) < (r.size:Int):=oM
   rw [if_neg hlong] at AS
   subst AS
   obtain ⟨cod,zQ⟩ : ∃ cod,dZ l ⟨line,rep⟩=cod:=⟨_,rfl⟩
   rw [zQ] at cA
   clear zQ
   have htW:=(zS.then b8).tab
   obtain ⟨c0,c1,c2,c3,c4,c5,c6,c7⟩:=cells8 K1
   go_wp2_with fail
   refine (cA W7 htW).mono ?_
   rintro e W9 ⟨rfl,hb9⟩
   have Q1:=K1.below hb9 K1.lt
   have Q2:=K2.below hb9 K2.lt
   have Q6:=K6.below hb9 K6.lt
   have b10:=b8.trans (hb9.mono b8.size)
   have yO:=ac zA hb9
   have yf:=ac xi hb9
   have gr9:W9.grownBy (((W9.setCell ⟨g6,5,none⟩ (wG l2.D)).setCell ⟨g6,6,none⟩ (wG l2.P)).setCell ⟨g6,7,none⟩ (O U l2.n)) (some g6):=ab (g:=g6) (i:=7) (u:=O U l2.n) (ab (g:=g6) (i:=6) (u:=wG l2.P) (ab (g:=g6) (i:=5) (u:=wG l2.D) (World.grownBy.refl W9 (some g6))))
   have Ao:=ak yO Q6 fj gr9
   have Ap:=ak yf Q6 fk gr9
   have R2:ai (((W9.setCell ⟨g6,5,none⟩ (wG l2.D)).setCell ⟨g6,6,none⟩ (wG l2.P)).setCell ⟨g6,7,none⟩ (O U l2.n)) (w.heap.size+1) 42 [F none 0 0,F none 0 0,O U 0,O U 0,O U 0,wG ⟨#[]⟩,wG ⟨#[]⟩,O U 0]:=(((Q2).other (p:=⟨g6,5,none⟩) (by simp only; omega) (wG l2.D)).other (p:=⟨g6,6,none⟩) (by simp only; omega) (wG l2.P)).other (p:=⟨g6,7,none⟩) (by simp only; omega) (O U l2.n)
   have R6:ai (((W9.setCell ⟨g6,5,none⟩ (wG l2.D)).setCell ⟨g6,6,none⟩ (wG l2.P)).setCell ⟨g6,7,none⟩ (O U l2.n)) g6 42 [F TB y.t.length tb,F OB y.o.length ob,O U y.gt,O U y.sd,O U y.ms,wG l2.D,wG l2.P,O U l2.n]:=(((Q6).set 5 (wG l2.D)).set 6 (wG l2.P)).set 7 (O U l2.n)
   have b11:=(((b10).setCell (p:=⟨g6,5,none⟩) yS (wG l2.D)).setCell (p:=⟨g6,6,none⟩) yS (wG l2.P)).setCell (p:=⟨g6,7,none⟩) yS (O U l2.n)
   obtain ⟨z0,z1,z2,z3,z4,z5,z6,z7⟩:=cells8 Q6
   obtain ⟨f0,f1,f2,f3,f4,f5,f6,f7⟩:=frz8 Q6
   clear K1 K2 Q1 Q2 hb9 b8 b10 yO yf zA xi gr9 c0 c1 c2 c3 c4 c5 c6 c7
   go_upto_region 14 with fail
   clear K6 Q6 z0 z1 z2 z3 z4 z5 z6 z7 f0 f1 f2 f3 f4 f5 f6 f7
   generalize (((W9.setCell ⟨g6,5,none⟩ (wG l2.D)).setCell ⟨g6,6,none⟩ (wG l2.P)).setCell ⟨g6,7,none⟩ (O U l2.n))=WB at R2 R6 b11 Ao Ap ⊢
   obtain ⟨p0,p1,p2,p3,p4,p5,p6,p7⟩:=cells8 R6
   obtain ⟨z0,z1,z2,z3,z4,z5,z6,z7⟩:=cells8 R2
   obtain ⟨f0,f1,f2,f3,f4,f5,f6,f7⟩:=frz8 R2
   obtain ⟨BU,BV⟩:=dt (F TB y.t.length tb) (F OB y.o.length ob) (O U y.gt) (O U y.sd) (O U y.ms) (wG l2.D) (wG l2.P) (O U l2.n) R2 Ao Ap
   have bz:=jZ (eX (g:=w.heap.size+1) (b11) xq (F TB y.t.length tb) (F OB y.o.length ob) (O U y.gt) (O U y.sd) (O U y.ms) (wG l2.D) (wG l2.P) (O U l2.n))
   have Ea:=jZ BU
   have Eb:=jZ BV
   clear R2 R6 b11 Ao Ap BU BV
   go_wp2_with fail
   refine bodyPost_ret (v:=.tuple #[.agg #[F TB y.t.length tb,F OB y.o.length ob,O U y.gt,O U y.sd,O U y.ms,wG l2.D,wG l2.P,O U l2.n],wG rep]) (by simp [results,Tryz.results16,go_sem, *]) rfl (db.mk ET.out EO.out EL.out ⟨TB,tb,OB,ob,rfl,Ea.out,Eb.out⟩ bz.out)
theorem sU (x:aO) (l:Lg) (line:ByteArray) (w:World) (h:aQ w w.heap.size x) (tl:x.t.length≤1048576) (ol:x.o.length≤1048576) (hs:l.D.size+l.P.size≤2000000) (zc:line.size≤1048576) (zS:LW w) :
  Calls wH 16 #[aJ x l,wG line] w (db w x l line):=by
 cases wP:dx x l
 ·exact uF x l line w h tl ol hs zc zS wP
 ·cases yl:dA.ok ⟨line,⟨#[]⟩⟩
  ·exact sR x l line w h tl ol hs zc zS wP yl
  ·by_cases hn:l.n=60
   ·exact rE x l line w h tl ol hs zc zS wP yl hn
   ·exact sS x l line w h tl ol hs zc zS wP yl hn
theorem lm {n k:Nat} {c r:List UInt8} (h:eY c r=true):aG (n+1) k (bT k c r) = [((c,r),(bT k c r).length)]:=by
 have hb:cP 10 (bT k c r)=eE (eU k c r):=by unfold bT; exact ez (tB h)
 have h1:(10:UInt8) ∈ bT k c r:=by unfold bT; simp
 have hl:(eE (eU k c r)).length+1=(bT k c r).length:=by unfold bT; simp
 rw [cu h1 (by rw [hb]; exact mj ⟨h,rfl⟩),hb,hl,List.drop_eq_nil_of_le nR,dG sP]
theorem mE {c r:List UInt8} (h:eY c r=true):∀ (n k:Nat) (s:List UInt8),cr (aG n k s)=s.length→(aG n k s).length < n →
  aG n k (s++bT (k+(aG n k s).length) c r)=aG n k s++[((c,r),(bT (k+(aG n k s).length) c r).length)]
 | 0,_,_,_,h2=>absurd h2 oM
 | n+1,k,s,h1,h2=>by
  by_cases hs:(10:UInt8) ∈ s
  ·cases hd:ed k (cP 10 s) with
   | none =>
    rw [dJ hd] at h1
    have:s = []:=List.eq_nil_of_length_eq_zero (by rw [← h1]; simp [cr])
    rw [this] at hs; cases hs
   | some e =>
    have e1:=dd hs
    have wR:(cP 10 s).length+1≤s.length:=by have:=congrArg List.length e1; simp at this; omega
    have ey:=cu (n:=n) hs hd
    rw [ey,fP] at h1
    rw [ey,List.length_cons] at h2
    have ih:=mE h n (k+1) (s.drop ((cP 10 s).length+1)) (by rw [List.length_drop]; simp only at h1; omega) oM
    have hk:k+(aG (n+1) k s).length=k+1+(aG n (k+1) (s.drop ((cP 10 s).length+1))).length:=by rw [ey,List.length_cons]; omega
    rw [hk]
    generalize bT (k+1+(aG n (k+1) (s.drop ((cP 10 s).length+1))).length) c r=x at ih ⊢
    have hb:cP 10 (s++x)=cP 10 s:=by
     rw (occs:=[1]) [e1]
     rw [List.append_assoc,List.cons_append]; exact ez (fG 10 s)
    rw [cu (by simp [hs]) (by rw [hb]; exact hd),hb,List.drop_append_of_le_length wR,ih,ey]
    rfl
  ·have hn:aG (n+1) k s = []:=dG hs
   rw [hn] at h1
   have:s = []:=List.eq_nil_of_length_eq_zero (by rw [← h1]; simp [cr])
   subst this
   rw [hn]
   simp only [List.length_nil,Nat.add_zero,List.nil_append]
   exact lm h
noncomputable def qt (y:Oc) (l:Lg) (t:ByteArray):Oc:=fD y.off l t
noncomputable def oG (y:Oc) (l:Lg) (t:ByteArray):Lg:=fS y.off l t
noncomputable def lp (y:Oc) (l:Lg) (t:ByteArray):ByteArray:=gw y.off l t
noncomputable def oO (y:Oc) (l:Lg):Bool:=dx y.off l
theorem qn (x:aO) (l:Lg) (t:ByteArray):fD x l t=qt x.c l t:=by cases x; rfl
theorem qo (x:aO) (l:Lg) (t:ByteArray):fS x l t=oG x.c l t:=by cases x; rfl
theorem tK (x:aO) (l:Lg) (t:ByteArray):gw x l t=lp x.c l t:=by cases x; rfl
theorem qp (x:aO) (l:Lg):dx x l=oO x.c l:=by cases x; rfl
theorem vy {l:Lg} {e:dA} (hl:l.ok=true):(cH l e).ok=true:=by
 cases hr:e.ok with
 | false=>rw [(ir (by rw [hl,hr]; rfl)).1]; exact hl
 | true =>
  by_cases hn:l.n=60
  ·rw [(fM (by rw [hl,hr]; rfl) hn).1]; exact hl
  ·obtain ⟨e1, -⟩:=fQ (show (l.ok && e.ok)=true by rw [hl,hr]; rfl) hn
   have hr:eY (bl e.c) (bl e.r)=true:=hr
   obtain ⟨q1,q2,q3⟩:=ce.1 hl
   have zz:=cW 60 0 (bl l.D++bl l.P)
   have wR:(aG 60 0 (bl l.D++bl l.P)).length < 60:=oM
   have Hy:l.n.toNat=(aG 60 0 (bl l.D++bl l.P)).length:=oM
   have ha:=mE hr 60 0 (bl l.D++bl l.P) (by rw [q1,List.length_append]) wR
   rw [Nat.zero_add] at ha
   obtain ⟨lb,BO⟩ : ∃ lb:ByteArray,lb=⟨(bT l.n.toNat (bl e.c) (bl e.r)).toArray⟩:=⟨_,rfl⟩
   rw [← BO] at e1
   rw [e1]
   have Bt:bl lb=bT (aG 60 0 (bl l.D++bl l.P)).length (bl e.c) (bl e.r):=by rw [BO,bo (bT l.n.toNat (bl e.c) (bl e.r)),Hy]
   clear BO
   have eP:bl (l.P++lb)=bl l.P++bT (aG 60 0 (bl l.D++bl l.P)).length (bl e.c) (bl e.r):=by rw [cE l.P lb,Bt]
   generalize zM:bT (aG 60 0 (bl l.D++bl l.P)).length (bl e.c) (bl e.r)=ln at ha eP Bt
   have Ai:aG 60 0 (bl l.D++bl (l.P++lb))=aG 60 0 (bl l.D++bl l.P)++[((bl e.c,bl e.r),ln.length)]:=by
    rw [eP,← List.append_assoc]; exact ha
   have hlens:cr (aG 60 0 (bl l.D++bl l.P)++[((bl e.c,bl e.r),ln.length)])=(bl l.D).length+((bl l.P).length+ln.length):=by
    have:cr (aG 60 0 (bl l.D++bl l.P)++[((bl e.c,bl e.r),ln.length)])=cr (aG 60 0 (bl l.D++bl l.P))+ln.length:=by simp [cr]
    omega
   unfold Lg.ok
   rw [ce]
   simp only
   rw [Ai]
   exact ⟨by rw [hlens,eP,List.length_append],q2,by rw [List.length_append,List.length_singleton]; omega⟩
theorem ia {y:Oc} {l:Lg} : oO y l=true ↔ y.good=true∧l.ok=true:=by
 unfold oO dx
 rw [Bool.and_eq_true]
 exact Iff.rfl
theorem nz {y:Oc} {l:Lg} (t:ByteArray) (h:oO y l=true):oO (qt y l t) (oG y l t)=true:=by
 obtain ⟨h1,h2⟩:=ia.1 h
 have h1' : (y.off).c.good=true:=h1
 refine ia.2 ⟨?_, ?_⟩
 ·unfold qt fD
  split
  ·split
   ·split
    ·exact h1
    ·rw [tJ]; exact pC h1' t
   ·exact h1
  ·exact h1
 ·unfold oG fS
  split
  ·split
   ·split
    ·exact h2
    ·exact vy h2
   ·exact h2
  ·exact h2
theorem kL {y:Oc} {l:Lg} (h:oO y l=true):y.t.length≤1048576∧y.o.length≤1048576∧l.D.size+l.P.size≤2000000:=by
 obtain ⟨h1,h2⟩:=ia.1 h
 have G:=kA h1
 have hs:=fi (ce.1 h2).1
 rw [an,an] at hs
 omega
noncomputable def ck:List (List UInt8)→Oc→Lg→List ByteArray→List ByteArray
 | [],_,_,acc=>acc
 | t :: ts,y,l,acc=>ck ts (qt y l ⟨t.toArray⟩) (oG y l ⟨t.toArray⟩) (acc++[lp y l ⟨t.toArray⟩])
theorem kX {ts:List (List UInt8)} {k:Nat} (h:k < ts.length) (y:Oc) (l:Lg) (acc:List ByteArray) :
  ck (ts.drop k) y l acc=ck (ts.drop (k+1)) (qt y l ⟨ts[k].toArray⟩) (oG y l ⟨ts[k].toArray⟩) (acc++[lp y l ⟨ts[k].toArray⟩]):=by
 rw [List.drop_eq_getElem_cons h,ck]
theorem lV:∀ (ts:List (List UInt8)) (y:Oc) (l:Lg) (acc:List ByteArray),(ck ts y l acc).length=acc.length+ts.length
 | [],_,_,acc=>by simp [ck]
 | t :: ts,y,l,acc=>by rw [ck,lV ts]; simp; omega
noncomputable def cl (y:Oc) (l:Lg) (s:ByteArray):Bool:=oO y l && decide (s.size≤4000) && decide ((aI 10 (bl s)).length≤30)
noncomputable def dE (y:Oc) (l:Lg) (s:ByteArray):List ByteArray:=if cl y l s then ck (aI 10 (bl s)) y l [] else []
theorem rF (y:Oc) (l:Lg) (s:ByteArray):(dE y l s).length≤30:=by
 unfold dE
 split
 ·rename_i h
  unfold cl at h
  simp only [Bool.and_eq_true,decide_eq_true_eq] at h
  rw [lV]; simp; exact h.2
 ·exact Nat.zero_le _
end Go.Proofs.YtoeoimhemojdeaaGreatDoor
