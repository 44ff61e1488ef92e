/- Lemmas. -/
import Derived.Test.YtoeoimhemojdeaaGreatDoorFc36

set_option linter.unusedVariables false
set_option linter.unusedSimpArgs false
set_option maxHeartbeats 8000000
open Go.Value renaming int → O, slice → F, string → vw
open Go.IntKind renaming i64 → U
open Go.Proofs.Tryz renaming prog → vx

namespace Go.Proofs.YtoeoimhemojdeaaGreatDoor
open Go.RowKit
theorem kn {m:List Int} {rest:List Value} {k:Nat} (h:k < m.length):(bc m++rest)[k]?=some (O U m[k]):=by
 rw [List.getElem?_append_left (by simpa using h),List.getElem?_map,List.getElem?_eq_getElem h]; rfl
set_option maxRecDepth 100000 in
theorem rL (x:aO) (l:Lg) (line:ByteArray) (w:World) (h:aP w w.heap.size x) (vM:x.t.length≤x.tc) (G:bH x) (hs:line.size≤1000) :
  Calls vx 47 #[aI x l,vw line] w (bo w x l (iL x line)):=by
 have L1:=(ah.new w 42 #[F x.TA x.t.length x.tc,F x.OA x.o.length x.oc,O U x.gt,O U x.sd,O U x.ms,vw l.D,vw l.P,O U l.n]).alloc (.cells #[F none 0 0,F none 0 0,O U 0,O U 0,O U 0,vw ⟨#[]⟩,vw ⟨#[]⟩,O U 0] 42)
 have L2:=ah.new1 w (.cells #[F x.TA x.t.length x.tc,F x.OA x.o.length x.oc,O U x.gt,O U x.sd,O U x.ms,vw l.D,vw l.P,O U l.n] 42) 42 #[F none 0 0,F none 0 0,O U 0,O U 0,O U 0,vw ⟨#[]⟩,vw ⟨#[]⟩,O U 0]
 have b1:=bZ w (.cells #[F x.TA x.t.length x.tc,F x.OA x.o.length x.oc,O U x.gt,O U x.sd,O U x.ms,vw l.D,vw l.P,O U l.n] 42)
 have b2:=b1.alloc b1.size (.cells #[F none 0 0,F none 0 0,O U 0,O U 0,O U 0,vw ⟨#[]⟩,vw ⟨#[]⟩,O U 0] 42)
 have hW:=h.up b2 nR
 have we:w.heap.size≤w.heap.size+1:=oM
 clear b1
 have DD:=fun W=>pv line 32 W oM
 have Fz:=mI (b:=32) (n:=1000) (s:=bl line) (by rw [ao]; exact hs)
 have DE:=mH (b:=32) (n:=1000) (s:=bl line) (by rw [ao]; exact hs)
 have Ce:=jZ (fun h=>qC (x:=x) (line:=line) h)
 have AO:=jZ (fun ns h=>qD (x:=x) (line:=line) (ns:=ns) h)
 have BL:Hid (wd (bl line) 0=⟨((aK 32 (bl line)).getD 0 []).toArray⟩):=rfl
 have CR:=jZ (uY (l:=bl line))
 obtain ⟨ps,AJ⟩ : ∃ ps,aK 32 (bl line)=ps:=⟨_,rfl⟩
 simp only [AJ] at DD Fz DE Ce AO BL CR
 have Eo:=jZ DE
 obtain ⟨BZ,Ex⟩:=Fz
 obtain ⟨R,hR⟩ : ∃ R,iL x line=R:=⟨_,rfl⟩
 rw [hR] at Ce AO ⊢
 obtain ⟨w0,FA⟩ : ∃ w0,wd (bl line) 0=w0:=⟨_,rfl⟩
 rw [FA] at AO BL CR
 clear AJ DE hR FA
 go_enter Tryz.func47,Tryz.ntmps47
 go_wp2_with fail
 generalize ((w.alloc (.cells #[F x.TA x.t.length x.tc,F x.OA x.o.length x.oc,O U x.gt,O U x.sd,O U x.ms,vw l.D,vw l.P,O U l.n] 42)).alloc (.cells #[F none 0 0,F none 0 0,O U 0,O U 0,O U 0,vw ⟨#[]⟩,vw ⟨#[]⟩,O U 0] 42))=W at L1 L2 b2 hW ⊢
 generalize w.heap.size+1=gr at L2 we ⊢
 refine (DD W).mono ?_
 rintro e w3 ⟨g8,c8,rest,rfl,L8,wg,vQ⟩
 have ha:=(Below.refl w3.heap.size w3).alloc nR (.cells #[] 3)
 have hO:(w3.alloc (.cells #[] 3)).ownsRow W.heap.size 3 1 (F (some ⟨w3.heap.size,0,none⟩) 0 0) 0 []:=dO (ah.new w3 3 #[]) vQ.size
 have S3:=jZ (ur.mk (w:=W) (v:=F (some ⟨w3.heap.size,0,none⟩) 0 0) (m:=[]) (av vQ ha) (L8.below ha L8.lt) hO)
 clear vQ ha hO DD L8
 have hp1' : (1:Int)≤(ps.length:Int):=oM
 go_wp2_with fail
 generalize w3.alloc (.cells #[] 3)=W3 at S3 ⊢
 generalize w3.heap.size=g3 at S3 ⊢
 go_loopw [7,8,9,10] (fun o i _ _ wr=>∃ (k:Nat) (A:Option Addr) (c:Nat) (m:List Int),1≤k∧k≤ps.length∧i=O U k∧o=F A m.length c∧m.length≤k∧Hid (ur W wr g8 ps rest (F A m.length c) m)∧Hid (gw m (ps.drop k)=dQ (ps.drop 1))) (fun _ i _ _ _=>ps.length - (intOf i).toNat)
 case atStart=>exact ⟨1,some ⟨g3,0,none⟩,0,[],Nat.le_refl _,BZ,rfl,rfl,Nat.zero_le _,S3,mA _⟩
 case round =>
  clear S3
  obtain ⟨k,A,c,m,Ba,hk,rfl,rfl,Ft,HS,BM⟩:=hrel
  by_cases vH:k < ps.length
  ·have Al:(k:Int) < (ps.length:Int):=oM
   have c0:wr.cell? ⟨g8,k,none⟩=some (vw ⟨(ps[k]'vH).toArray⟩):=by
    rw [HS.out.ws.cell]; exact ja ps _ _ vH
   have ht:=Eo.out (ps[k]'vH) (List.getElem_mem _)
   obtain ⟨t,DF⟩ : ∃ t:ByteArray,t=⟨(ps[k]'vH).toArray⟩:=⟨_,rfl⟩
   have yK:bl t=ps[k]'vH:=by rw [DF,bL]
   rw [← DF] at c0
   have KO:t.size≤1000:=by rw [← ao,yK]; exact ht
   clear DF ht
   have CP:Hid (cW (bl t)=none→dQ (ps.drop 1)=none):=fun hn=>by
    rw [← BM.out]; exact mB vH (by rw [← yK]; exact hn)
   have FB:Hid (∀ n,cW (bl t)=some n→gw (m++[n]) (ps.drop (k+1))=dQ (ps.drop 1)):=fun n hn=>by
    rw [← BM.out]; exact (mD vH (by rw [← yK]; exact hn)).symm
   have AP:=fun W=>lY t W oM
   unfold jb at AP
   obtain ⟨q,hq⟩ : ∃ q,cW (bl t)=q:=⟨_,rfl⟩
   rw [hq] at CP FB AP
   clear hq yK
   cases q with
   | none =>
    have HE:=jZ (Ce.out (CP.out rfl))
    simp only [Option.isSome_none,Option.getD_none] at AP
    go_wp2_with fail
    refine (AP _).mono ?_
    rintro e w4 ⟨rfl,vN⟩
    have b5:=av HS.out.bl vN
    have K1:=L1.below b5 L1.lt
    have K2:=L2.below b5 L2.lt
    have b6:=b2.trans (b5.mono b2.size)
    obtain ⟨c0,c1,c2,c3,c4,c5,c6,c7⟩:=cells8 K1
    obtain ⟨z0,z1,z2,z3,z4,z5,z6,z7⟩:=cells8 K2
    obtain ⟨f0,f1,f2,f3,f4,f5,f6,f7⟩:=frz8 K2
    have bz:=jZ (eO (g:=gr) (b6) we (F x.TA x.t.length x.tc) (F x.OA x.o.length x.oc) (O U x.gt) (O U x.sd) (O U x.ms) (vw l.D) (vw l.P) (O U l.n))
    clear K1 K2 L1 L2 b6 b5 vN HS BM
    go_wp2_with fail
    refine bodyPost_ret (v:=.tuple #[aI x l,vw ⟨#[63]⟩]) (by simp [results,Tryz.results47,go_sem, *]) rfl (by rw [HE.out]; exact ⟨_,rfl,.inl ⟨rfl,rfl⟩,bz.out⟩)
   | some n =>
    have HN:=jZ (FB.out n rfl)
    simp only [Option.isSome_some,Option.getD_some] at AP
    go_wp2_with fail
    refine (AP _).mono ?_
    rintro e w4 ⟨rfl,vN⟩
    have Co:=jZ (HS.out.then vN)
    have Il:=jZ Co.out.row
    have wH:W.heap.size≤w4.heap.size:=Co.out.bl.size
    go_wp2_with (at_builtin; refine cZ (w0:=w4) rfl _ _ 100 rfl 3 _ 1 8 Tryz.underlying100 iD rfl (by omega) (by omega) W.heap.size _ _ _ rfl Il #[O U n] 1 _ rfl (by first | rfl | exact Array.size_push _) rfl (by simp [Value.oneCell']) (by omega) wH rfl rfl rfl rfl ?_; intro v6 w6 BG xL wk)
    have DG:=jZ (Co.out.push (n:=n) BG.out xL wk)
    obtain ⟨A6,c6,Fm⟩:=az BG.out
    subst Fm
    go_wp2
    go_roundw
    case rel=>exact ⟨k+1,A6,c6,m++[n],oM,oM,by go_num,sP,by simp; omega,by rw [Hid]; simpa using DG.out,HN.out⟩
    case measure=>simp [intOf]; omega
  ·have Al : ¬ (k:Int) < (ps.length:Int):=oM
   have BN:Hid (dQ (ps.drop 1)=some m):=by
    have h1:=BM.out; rw [List.drop_eq_nil_of_le oM,nG] at h1; exact h1.symm
   have HE:=jZ (AO.out m BN.out)
   have b5:=HS.out.bl
   have K1:=L1.below b5 L1.lt
   have K2:=L2.below b5 L2.lt
   have b6:=b2.trans (b5.mono b2.size)
   have zX:=hW.then b5
   have LW8:=HS.out.ws
   have yd:=HS.out.row
   have c80:wr.cell? ⟨g8,0,none⟩=some (vw w0):=by
    rw [LW8.cell,BL.out,eH (by omega:0 < ps.length)]; exact ja ps _ _ oM
   have AQ:Hid (ps.length=m.length+1):=by
    have:=oP BN.out; rw [List.length_drop] at this; rw [Hid]; omega
   clear HS BM L1 L2 b2 b5 hW Ce AO BL vH
   clear Eo
   have BH:(0:Int) < (ps.length:Int):=oM
   have hpsN:0 < ps.length:=oM
   by_cases e0:m.length=0
   ·have z0:((m.length:Int) == 0)=true:=by rw [e0]; rfl
    have z1:((m.length:Int) == 1)=false:=beq_false_of_ne oM
    have z2:((m.length:Int) == 2)=false:=beq_false_of_ne oM
    have z3:((m.length:Int) == 3)=false:=beq_false_of_ne oM
    have Jn:w0=line:=by
     rw [CR.out (by have:=AQ.out; omega)]; exact (dW rfl).symm
    have wX:=HE.out
    rw [nJ e0,Jn] at wX
    have Bw:js R=(dn x line).getD cJ:=by rw [wX]; exact qF _
    have HO:Hid (fx x R=x.c):=by rw [wX]; exact lw _
    have hc:=fun W hR=>qA x line W hR G
    obtain ⟨T,hT⟩ : ∃ T,(dn x line).getD cJ=T:=⟨_,rfl⟩
    rw [hT] at hc Bw
    have HT:=jZ Bw
    clear hT Bw wX Jn HE CR AQ BN
    go_wp2_with fail
    refine al (Sw 5 (fun W9=>Below wr.heap.size wr W9) (fun W9=>Below w.heap.size w W9∧ah W9 gr 42 [F x.TA x.t.length x.tc,F x.OA x.o.length x.oc,O U x.gt,O U x.sd,O U x.ms,vw l.D,vw l.P,O U l.n])) (fun i w1 w2=>i ∉ [5]→Below w1.heap.size w1 w2) kZ kZ kZ (Sw.start jB.drew) ?_
    simp only [aw,Act.put,sA,gs0,gs1,Nat.zero_add,Nat.reduceAdd]
    refine aa _ (vb0C8 K1) ?_
    refine aa _ vb0 ?_
    refine aa _ (vb1C5 1 K1) ?_
    refine aa _ vb0 ?_
    refine aa (vw T) (fun vs L9 w9 vA vy hB K9 vz=>?_) ?_
    next =>
     replace vy:=sb vy vA
     have d2:=fe hB 2
     have d3:=fe hB 3
     simp only [d2,d3] at vz ⊢
     go_simp
     refine (hc w9 (zX.then vy)).mono ?_
     rintro en w8 ⟨rfl,vB⟩
     exact vz _ _ rfl (Sw.stay vA kZ dD (vy.trans (vB.mono vy.size))) (fun _=>vB)
    refine aa (undef) (fun vs L9 w9 vA vy hB K9 vz=>?_) ?_
    next =>
     replace vy:=vy.here vA
     have d0:=fe hB 0
     simp only [d0] at vz ⊢
     have Lr:=K2.below vy K2.lt
     obtain ⟨z0,z1,z2,z3,z4,z5,z6,z7⟩:=cells8 Lr
     obtain ⟨f0,f1,f2,f3,f4,f5,f6,f7⟩:=frz8 Lr
     have wb:=jZ (show ah _ gr 42 [F x.TA x.t.length x.tc,F x.OA x.o.length x.oc,O U x.gt,O U x.sd,O U x.ms,vw l.D,vw l.P,O U l.n] from oh (Lr) (F x.TA x.t.length x.tc) (F x.OA x.o.length x.oc) (O U x.gt) (O U x.sd) (O U x.ms) (vw l.D) (vw l.P) (O U l.n))
     have wI:=jZ (eO (g:=gr) ((b6).trans (vy.mono (b6).size)) we (F x.TA x.t.length x.tc) (F x.OA x.o.length x.oc) (O U x.gt) (O U x.sd) (O U x.ms) (vw l.D) (vw l.P) (O U l.n))
     clear Lr
     go_simp
     exact vz _ _ rfl (Sw.turn ⟨wI.out,wb.out⟩) nq
    refine aa _ (va1 4) ?_
    refine au fun vs L9 w9 vI vy hB=>?_
    replace vy:=vy.done vI dD
    have dl:=ag.eq (hB 6 _ rfl rfl dD)
    simp only [dl]
    clear hB dl
    obtain ⟨hD,hN⟩:=vy
    obtain ⟨k0,k1,k2,k3,k4,k5,k6,k7⟩:=cells8 hN
    clear hN
    go_wp2
    refine bodyPost_ret (v:=.tuple #[aI x l,vw T]) (by simp [results,Tryz.results47,go_sem, *]) rfl (bo.mk HT.out (.inl ⟨rfl,HO.out⟩) hD)
   by_cases e1:m.length=1
   ·have z0:((m.length:Int) == 0)=false:=beq_false_of_ne oM
    have z1:((m.length:Int) == 1)=true:=by rw [e1]; rfl
    have z2:((m.length:Int) == 2)=false:=beq_false_of_ne oM
    have z3:((m.length:Int) == 3)=false:=beq_false_of_ne oM
    have FC:(0:Int) < (m.length:Int):=oM
    have xH:0 < m.length:=oM
    obtain ⟨gN,cN,rN,hv,_,LN,_⟩:=cd yd oM
    injection hv with ea eb ec
    subst ea; subst ec
    clear eb
    have d0n:wr.cell? ⟨gN,0,none⟩=some (O U (m[0]'xH)):=by rw [LN.cell]; exact kn xH
    obtain ⟨a0,yQ⟩ : ∃ a,m[0]'xH=a:=⟨_,rfl⟩
    rw [yQ] at d0n
    have wX:=HE.out
    rw [so e1 xH,yQ] at wX
    have Bw:js R=(gH x w0 a0).getD cJ:=by rw [wX]; exact qF _
    have HO:Hid (fx x R=x.c):=by rw [wX]; exact lw _
    have hc:=fun W hR=>rH x l w0 a0 W hR G
    obtain ⟨T,hT⟩ : ∃ T,(gH x w0 a0).getD cJ=T:=⟨_,rfl⟩
    rw [hT] at hc Bw
    have HT:=jZ Bw
    clear hT Bw wX HE CR AQ BN yQ
    go_wp2_with fail
    refine al (Sw 10 (fun W9=>Below wr.heap.size wr W9) (fun W9=>Below w.heap.size w W9∧ah W9 gr 42 [F x.TA x.t.length x.tc,F x.OA x.o.length x.oc,O U x.gt,O U x.sd,O U x.ms,vw l.D,vw l.P,O U l.n])) (fun i w1 w2=>i ∉ [10]→Below w1.heap.size w1 w2) kZ kZ kZ (Sw.start jB.drew) ?_
    simp only [aw,Act.put,sA,gs0,gs1,Nat.zero_add,Nat.reduceAdd]
    refine aa _ (vb0C8 K1) ?_
    refine aa _ vb0 ?_
    refine aa _ (vb1 1) ?_
    apply aa
    case h1 =>
     intro vs L9 w9 vA vy hB K9 vz
     replace vy:=sb vy vA
     have d2:=fe hB 2
     simp only [d2] at vz ⊢
     have q0:w9.cell? ⟨g8,0,none⟩=some (vw w0):=(vy.cell LW8.lt).trans c80
     simp only [Act.put,sA,gs0,gs1] at vz
     go_simp
     exact vz _ _ rfl (sy vA vy) bR
    refine aa _ vb0 ?_
    refine aa _ (vb1 4) ?_
    apply aa
    case h1 =>
     intro vs L9 w9 vA vy hB K9 vz
     replace vy:=sb vy vA
     have d5:=fe hB 5
     simp only [d5] at vz ⊢
     have q0:w9.cell? ⟨gN,0,none⟩=some (O U a0):=(vy.cell LN.lt).trans d0n
     simp only [Act.put,sA,gs0,gs1] at vz
     go_simp
     exact vz _ _ rfl (sy vA vy) bR
    refine aa (.tuple #[.agg #[F x.TA x.t.length x.tc,F x.OA x.o.length x.oc,O U x.gt,O U x.sd,O U x.ms,vw l.D,vw l.P,O U l.n],vw T]) (fun vs L9 w9 vA vy hB K9 vz=>?_) ?_
    next =>
     replace vy:=sb vy vA
     have d0:=fe hB 0
     have d3:=fe hB 3
     have d6:=fe hB 6
     simp only [d0,d3,d6] at vz ⊢
     go_simp
     refine (hc w9 (zX.then vy)).mono ?_
     rintro en w8 ⟨rfl,vB⟩
     exact vz _ _ rfl (Sw.stay vA kZ dD (vy.trans (vB.mono vy.size))) (fun _=>vB)
    refine aa _ (vb1 7) ?_
    refine aa _ (vb1 7) ?_
    refine aa (undef) (fun vs L9 w9 vA vy hB K9 vz=>?_) ?_
    next =>
     replace vy:=vy.here vA
     have d8:=fe hB 8
     simp only [d8] at vz ⊢
     have Lr:=K2.below vy K2.lt
     obtain ⟨z0,z1,z2,z3,z4,z5,z6,z7⟩:=cells8 Lr
     obtain ⟨f0,f1,f2,f3,f4,f5,f6,f7⟩:=frz8 Lr
     have wb:=jZ (show ah _ gr 42 [F x.TA x.t.length x.tc,F x.OA x.o.length x.oc,O U x.gt,O U x.sd,O U x.ms,vw l.D,vw l.P,O U l.n] from oh (Lr) (F x.TA x.t.length x.tc) (F x.OA x.o.length x.oc) (O U x.gt) (O U x.sd) (O U x.ms) (vw l.D) (vw l.P) (O U l.n))
     have wI:=jZ (eO (g:=gr) ((b6).trans (vy.mono (b6).size)) we (F x.TA x.t.length x.tc) (F x.OA x.o.length x.oc) (O U x.gt) (O U x.sd) (O U x.ms) (vw l.D) (vw l.P) (O U l.n))
     clear Lr
     go_simp
     exact vz _ _ rfl (Sw.turn ⟨wI.out,wb.out⟩) nq
    refine aa _ (va1 9) ?_
    refine au fun vs L9 w9 vI vy hB=>?_
    replace vy:=vy.done vI dD
    have dl:=ag.eq (hB 11 _ rfl rfl dD)
    simp only [dl]
    clear hB dl
    obtain ⟨hD,hN⟩:=vy
    obtain ⟨k0,k1,k2,k3,k4,k5,k6,k7⟩:=cells8 hN
    clear hN
    go_wp2
    refine bodyPost_ret (v:=.tuple #[aI x l,vw T]) (by simp [results,Tryz.results47,go_sem, *]) rfl (bo.mk HT.out (.inl ⟨rfl,HO.out⟩) hD)
   by_cases e2:m.length=2
   ·have z0:((m.length:Int) == 0)=false:=beq_false_of_ne oM
    have z1:((m.length:Int) == 1)=false:=beq_false_of_ne oM
    have z2:((m.length:Int) == 2)=true:=by rw [e2]; rfl
    have z3:((m.length:Int) == 3)=false:=beq_false_of_ne oM
    have FC:(0:Int) < (m.length:Int):=oM
    have xH:0 < m.length:=oM
    have KP:(1:Int) < (m.length:Int):=oM
    have ym:1 < m.length:=oM
    obtain ⟨gN,cN,rN,hv,_,LN,_⟩:=cd yd oM
    injection hv with ea eb ec
    subst ea; subst ec
    clear eb
    have d0n:wr.cell? ⟨gN,0,none⟩=some (O U (m[0]'xH)):=by rw [LN.cell]; exact kn xH
    have d1n:wr.cell? ⟨gN,1,none⟩=some (O U (m[1]'ym)):=by rw [LN.cell]; exact kn ym
    obtain ⟨a0,yQ⟩ : ∃ a,m[0]'xH=a:=⟨_,rfl⟩
    rw [yQ] at d0n
    obtain ⟨a1,zO⟩ : ∃ a,m[1]'ym=a:=⟨_,rfl⟩
    rw [zO] at d1n
    have wX:=HE.out
    rw [uL e2 xH ym,yQ,zO] at wX
    have hc:=fun W hR=>rK x l w0 a0 a1 W hR vM
    rw [← wX] at hc
    obtain ⟨T,hT⟩ : ∃ T,js R=T:=⟨_,rfl⟩
    unfold bo at hc
    rw [hT] at hc
    have HT:=jZ hT
    clear hT wX HE CR AQ BN yQ zO
    go_wp2_with fail
    refine al (Sw 13 (fun W9=>Below wr.heap.size wr W9) (fun W9=>Below w.heap.size w W9∧jw W9 w.heap.size gr x l (fx x R))) (fun i w1 w2=>i ∉ [13]→Below w1.heap.size w1 w2) kZ kZ kZ (Sw.start jB.drew) ?_
    simp only [aw,Act.put,sA,gs0,gs1,Nat.zero_add,Nat.reduceAdd]
    refine aa _ (vb0C8 K1) ?_
    refine aa _ vb0 ?_
    refine aa _ (vb1 1) ?_
    apply aa
    case h1 =>
     intro vs L9 w9 vA vy hB K9 vz
     replace vy:=sb vy vA
     have d2:=fe hB 2
     simp only [d2] at vz ⊢
     have q0:w9.cell? ⟨g8,0,none⟩=some (vw w0):=(vy.cell LW8.lt).trans c80
     simp only [Act.put,sA,gs0,gs1] at vz
     go_simp
     exact vz _ _ rfl (sy vA vy) bR
    refine aa _ vb0 ?_
    refine aa _ (vb1 4) ?_
    apply aa
    case h1 =>
     intro vs L9 w9 vA vy hB K9 vz
     replace vy:=sb vy vA
     have d5:=fe hB 5
     simp only [d5] at vz ⊢
     have q0:w9.cell? ⟨gN,0,none⟩=some (O U a0):=(vy.cell LN.lt).trans d0n
     simp only [Act.put,sA,gs0,gs1] at vz
     go_simp
     exact vz _ _ rfl (sy vA vy) bR
    refine aa _ vb0 ?_
    refine aa _ (vb1 7) ?_
    apply aa
    case h1 =>
     intro vs L9 w9 vA vy hB K9 vz
     replace vy:=sb vy vA
     have d8:=fe hB 8
     simp only [d8] at vz ⊢
     have q0:w9.cell? ⟨gN,1,none⟩=some (O U a1):=(vy.cell LN.lt).trans d1n
     simp only [Act.put,sA,gs0,gs1] at vz
     go_simp
     exact vz _ _ rfl (sy vA vy) bR
    refine sm [13] (fun v w9=>∃ X:aO,v=.tuple #[aI X l,vw T]∧fw w9 w.heap.size x l (fx x R) (aI X l)) (fun vs L9 w9 vA vy hB K9 vz=>?_) ?_
    next =>
     replace vy:=sb vy vA
     have d0:=fe hB 0
     have d3:=fe hB 3
     have d6:=fe hB 6
     have d9:=fe hB 9
     simp only [d0,d3,d6,d9] at vz ⊢
     simp only [Act.put,sA,gs0,gs1] at vz
     go_simp
     refine (hc w9 (zX.then vy)).mono ?_
     rintro en w8 ⟨v,rfl,hv,vB⟩
     obtain ⟨X,rfl⟩:=hv.con
     exact vz _ _ _ rfl ⟨X,rfl,hv.lower (jT b6.size vy.size)⟩ (Sw.stay vA kZ dD (vy.trans (vB.mono vy.size))) (fun _=>vB)
    refine sm [13] (fun v w9=>∃ X:aO,v=aI X l∧fw w9 w.heap.size x l (fx x R) (aI X l)) (fun vs L9 w9 vA vy hB K9 vz=>?_) ?_
    next =>
     replace vy:=sb vy vA
     simp only [Act.put,sA,gs0,gs1] at vz
     obtain ⟨X,e0,hq⟩:=fs hB 10
     simp only [e0] at vz ⊢
     go_simp
     exact vz _ _ _ rfl ⟨X,rfl,hq⟩ (sy vA vy) bR
    refine aa (vw T) (fun vs L9 w9 vA vy hB K9 vz=>?_) ?_
    next =>
     replace vy:=sb vy vA
     obtain ⟨X,e0,hq⟩:=fs hB 10
     simp only [e0] at vz ⊢
     go_simp
     exact vz _ _ rfl (sy vA vy) bR
    refine aa (undef) (fun vs L9 w9 vA vy hB K9 vz=>?_) ?_
    next =>
     replace vy:=vy.here vA
     obtain ⟨X,e0,hq⟩:=fs hB 11
     simp only [e0] at vz ⊢
     have Lr:=K2.below vy K2.lt
     obtain ⟨z0,z1,z2,z3,z4,z5,z6,z7⟩:=cells8 Lr
     obtain ⟨f0,f1,f2,f3,f4,f5,f6,f7⟩:=frz8 Lr
     have wb:=jZ (jw.put (X:=X) Lr hq)
     have wI:=jZ (eO (g:=gr) (b6.trans (vy.mono b6.size)) we (F X.TA X.t.length X.tc) (F X.OA X.o.length X.oc) (O U X.gt) (O U X.sd) (O U X.ms) (vw l.D) (vw l.P) (O U l.n))
     clear Lr hq
     go_simp
     exact vz _ _ rfl (Sw.turn ⟨wI.out,wb.out⟩) nq
    refine aa _ (va1 12) ?_
    refine au fun vs L9 w9 vI vy hB=>?_
    replace vy:=vy.done vI dD
    have dl:=ag.eq (hB 14 _ rfl rfl dD)
    simp only [dl]
    clear hB dl
    obtain ⟨hD,X,hN,hV⟩:=vy
    obtain ⟨k0,k1,k2,k3,k4,k5,k6,k7⟩:=cells8 hN
    clear hN
    go_wp2
    refine bodyPost_ret (v:=.tuple #[aI X l,vw T]) (by simp [results,Tryz.results47,go_sem, *]) rfl (bo.mk HT.out hV hD)
   by_cases e3:m.length=3
   ·have z0:((m.length:Int) == 0)=false:=beq_false_of_ne oM
    have z1:((m.length:Int) == 1)=false:=beq_false_of_ne oM
    have z2:((m.length:Int) == 2)=false:=beq_false_of_ne oM
    have z3:((m.length:Int) == 3)=true:=by rw [e3]; rfl
    have FC:(0:Int) < (m.length:Int):=oM
    have xH:0 < m.length:=oM
    have KP:(1:Int) < (m.length:Int):=oM
    have ym:1 < m.length:=oM
    have Ep:(2:Int) < (m.length:Int):=oM
    have Cc:2 < m.length:=oM
    obtain ⟨gN,cN,rN,hv,_,LN,_⟩:=cd yd oM
    injection hv with ea eb ec
    subst ea; subst ec
    clear eb
    have d0n:wr.cell? ⟨gN,0,none⟩=some (O U (m[0]'xH)):=by rw [LN.cell]; exact kn xH
    have d1n:wr.cell? ⟨gN,1,none⟩=some (O U (m[1]'ym)):=by rw [LN.cell]; exact kn ym
    have d2n:wr.cell? ⟨gN,2,none⟩=some (O U (m[2]'Cc)):=by rw [LN.cell]; exact kn Cc
    obtain ⟨a0,yQ⟩ : ∃ a,m[0]'xH=a:=⟨_,rfl⟩
    rw [yQ] at d0n
    obtain ⟨a1,zO⟩ : ∃ a,m[1]'ym=a:=⟨_,rfl⟩
    rw [zO] at d1n
    obtain ⟨a2,yL⟩ : ∃ a,m[2]'Cc=a:=⟨_,rfl⟩
    rw [yL] at d2n
    have wX:=HE.out
    rw [tj e3 xH ym Cc,yQ,zO,yL] at wX
    clear yQ zO yL HE CR AQ BN
    by_cases h0:w0=⟨#[115,104,111,119]⟩
    ·subst h0
     have Am:R=bW x ⟨2,a0,a1,a2⟩:=by rw [wX]; unfold dr; rw [if_pos rfl]; rfl
     have hc:=fun W hR=>fM x l ⟨2,a0,a1,a2⟩ W hR vM
     rw [← Am] at hc
     obtain ⟨T,hT⟩ : ∃ T,js R=T:=⟨_,rfl⟩
     unfold bo at hc
     rw [hT] at hc
     have HT:=jZ hT
     clear hT wX Am
     go_wp2_with fail
     refine al (Sw 14 (fun W9=>Below wr.heap.size wr W9) (fun W9=>Below w.heap.size w W9∧jw W9 w.heap.size gr x l (fx x R))) (fun i w1 w2=>i ∉ [14]→Below w1.heap.size w1 w2) kZ kZ kZ (Sw.start jB.drew) ?_
     simp only [aw,Act.put,sA,gs0,gs1,Nat.zero_add,Nat.reduceAdd]
     refine aa _ (vb0C8 K1) ?_
     refine aa _ vb0 ?_
     refine aa _ (vb1 1) ?_
     apply aa
     case h1 =>
      intro vs L9 w9 vA vy hB K9 vz
      replace vy:=sb vy vA
      have d2:=fe hB 2
      simp only [d2] at vz ⊢
      have q0:w9.cell? ⟨gN,0,none⟩=some (O U a0):=(vy.cell LN.lt).trans d0n
      simp only [Act.put,sA,gs0,gs1] at vz
      go_simp
      exact vz _ _ rfl (sy vA vy) bR
     refine aa _ vb0 ?_
     refine aa _ (vb1 4) ?_
     apply aa
     case h1 =>
      intro vs L9 w9 vA vy hB K9 vz
      replace vy:=sb vy vA
      have d5:=fe hB 5
      simp only [d5] at vz ⊢
      have q0:w9.cell? ⟨gN,1,none⟩=some (O U a1):=(vy.cell LN.lt).trans d1n
      simp only [Act.put,sA,gs0,gs1] at vz
      go_simp
      exact vz _ _ rfl (sy vA vy) bR
     refine aa _ vb0 ?_
     refine aa _ (vb1 7) ?_
     apply aa
     case h1 =>
      intro vs L9 w9 vA vy hB K9 vz
      replace vy:=sb vy vA
      have d8:=fe hB 8
      simp only [d8] at vz ⊢
      have q0:w9.cell? ⟨gN,2,none⟩=some (O U a2):=(vy.cell LN.lt).trans d2n
      simp only [Act.put,sA,gs0,gs1] at vz
      go_simp
      exact vz _ _ rfl (sy vA vy) bR
     refine aa _ (vb3 3 6 9) ?_
     refine sm [14] (fun v w9=>∃ X:aO,v=.tuple #[aI X l,vw T]∧fw w9 w.heap.size x l (fx x R) (aI X l)) (fun vs L9 w9 vA vy hB K9 vz=>?_) ?_
     next =>
      replace vy:=sb vy vA
      have d0:=fe hB 0
      have d10:=fe hB 10
      simp only [d0,d10] at vz ⊢
      simp only [Act.put,sA,gs0,gs1] at vz
      go_simp
      refine (hc w9 (zX.then vy)).mono ?_
      rintro en w8 ⟨v,rfl,hv,vB⟩
      obtain ⟨X,rfl⟩:=hv.con
      exact vz _ _ _ rfl ⟨X,rfl,hv.lower (jT b6.size vy.size)⟩ (Sw.stay vA kZ dD (vy.trans (vB.mono vy.size))) (fun _=>vB)
     refine sm [14] (fun v w9=>∃ X:aO,v=aI X l∧fw w9 w.heap.size x l (fx x R) (aI X l)) (fun vs L9 w9 vA vy hB K9 vz=>?_) ?_
     next =>
      replace vy:=sb vy vA
      simp only [Act.put,sA,gs0,gs1] at vz
      obtain ⟨X,e0,hq⟩:=fs hB 11
      simp only [e0] at vz ⊢
      go_simp
      exact vz _ _ _ rfl ⟨X,rfl,hq⟩ (sy vA vy) bR
     refine aa (vw T) (fun vs L9 w9 vA vy hB K9 vz=>?_) ?_
     next =>
      replace vy:=sb vy vA
      obtain ⟨X,e0,hq⟩:=fs hB 11
      simp only [e0] at vz ⊢
      go_simp
      exact vz _ _ rfl (sy vA vy) bR
     refine aa (undef) (fun vs L9 w9 vA vy hB K9 vz=>?_) ?_
     next =>
      replace vy:=vy.here vA
      obtain ⟨X,e0,hq⟩:=fs hB 12
      simp only [e0] at vz ⊢
      have Lr:=K2.below vy K2.lt
      obtain ⟨z0,z1,z2,z3,z4,z5,z6,z7⟩:=cells8 Lr
      obtain ⟨f0,f1,f2,f3,f4,f5,f6,f7⟩:=frz8 Lr
      have wb:=jZ (jw.put (X:=X) Lr hq)
      have wI:=jZ (eO (g:=gr) (b6.trans (vy.mono b6.size)) we (F X.TA X.t.length X.tc) (F X.OA X.o.length X.oc) (O U X.gt) (O U X.sd) (O U X.ms) (vw l.D) (vw l.P) (O U l.n))
      clear Lr hq
      go_simp
      exact vz _ _ rfl (Sw.turn ⟨wI.out,wb.out⟩) nq
     refine aa _ (va1 13) ?_
     refine au fun vs L9 w9 vI vy hB=>?_
     replace vy:=vy.done vI dD
     have dl:=ag.eq (hB 15 _ rfl rfl dD)
     simp only [dl]
     clear hB dl
     obtain ⟨hD,X,hN,hV⟩:=vy
     obtain ⟨k0,k1,k2,k3,k4,k5,k6,k7⟩:=cells8 hN
     clear hN
     go_wp2
     refine bodyPost_ret (v:=.tuple #[aI X l,vw T]) (by simp [results,Tryz.results47,go_sem, *]) rfl (bo.mk HT.out hV hD)
    have f0:(w0.toList == [115,104,111,119])=false:=bT h0
    by_cases h1:w0=⟨#[98,97,99,107]⟩
    ·subst h1
     have Am:R=bW x ⟨3,a0,a1,a2⟩:=by rw [wX]; unfold dr; rw [if_neg dD,if_pos rfl]; rfl
     have hc:=fun W hR=>fM x l ⟨3,a0,a1,a2⟩ W hR vM
     rw [← Am] at hc
     obtain ⟨T,hT⟩ : ∃ T,js R=T:=⟨_,rfl⟩
     unfold bo at hc
     rw [hT] at hc
     have HT:=jZ hT
     clear hT wX Am
     go_wp2_with fail
     refine al (Sw 14 (fun W9=>Below wr.heap.size wr W9) (fun W9=>Below w.heap.size w W9∧jw W9 w.heap.size gr x l (fx x R))) (fun i w1 w2=>i ∉ [14]→Below w1.heap.size w1 w2) kZ kZ kZ (Sw.start jB.drew) ?_
     simp only [aw,Act.put,sA,gs0,gs1,Nat.zero_add,Nat.reduceAdd]
     refine aa _ (vb0C8 K1) ?_
     refine aa _ vb0 ?_
     refine aa _ (vb1 1) ?_
     apply aa
     case h1 =>
      intro vs L9 w9 vA vy hB K9 vz
      replace vy:=sb vy vA
      have d2:=fe hB 2
      simp only [d2] at vz ⊢
      have q0:w9.cell? ⟨gN,0,none⟩=some (O U a0):=(vy.cell LN.lt).trans d0n
      simp only [Act.put,sA,gs0,gs1] at vz
      go_simp
      exact vz _ _ rfl (sy vA vy) bR
     refine aa _ vb0 ?_
     refine aa _ (vb1 4) ?_
     apply aa
     case h1 =>
      intro vs L9 w9 vA vy hB K9 vz
      replace vy:=sb vy vA
      have d5:=fe hB 5
      simp only [d5] at vz ⊢
      have q0:w9.cell? ⟨gN,1,none⟩=some (O U a1):=(vy.cell LN.lt).trans d1n
      simp only [Act.put,sA,gs0,gs1] at vz
      go_simp
      exact vz _ _ rfl (sy vA vy) bR
     refine aa _ vb0 ?_
     refine aa _ (vb1 7) ?_
     apply aa
     case h1 =>
      intro vs L9 w9 vA vy hB K9 vz
      replace vy:=sb vy vA
      have d8:=fe hB 8
      simp only [d8] at vz ⊢
      have q0:w9.cell? ⟨gN,2,none⟩=some (O U a2):=(vy.cell LN.lt).trans d2n
      simp only [Act.put,sA,gs0,gs1] at vz
      go_simp
      exact vz _ _ rfl (sy vA vy) bR
     refine aa _ (vb3 3 6 9) ?_
     refine sm [14] (fun v w9=>∃ X:aO,v=.tuple #[aI X l,vw T]∧fw w9 w.heap.size x l (fx x R) (aI X l)) (fun vs L9 w9 vA vy hB K9 vz=>?_) ?_
     next =>
      replace vy:=sb vy vA
      have d0:=fe hB 0
      have d10:=fe hB 10
      simp only [d0,d10] at vz ⊢
      simp only [Act.put,sA,gs0,gs1] at vz
      go_simp
      refine (hc w9 (zX.then vy)).mono ?_
      rintro en w8 ⟨v,rfl,hv,vB⟩
      obtain ⟨X,rfl⟩:=hv.con
      exact vz _ _ _ rfl ⟨X,rfl,hv.lower (jT b6.size vy.size)⟩ (Sw.stay vA kZ dD (vy.trans (vB.mono vy.size))) (fun _=>vB)
     refine sm [14] (fun v w9=>∃ X:aO,v=aI X l∧fw w9 w.heap.size x l (fx x R) (aI X l)) (fun vs L9 w9 vA vy hB K9 vz=>?_) ?_
     next =>
      replace vy:=sb vy vA
      simp only [Act.put,sA,gs0,gs1] at vz
      obtain ⟨X,e0,hq⟩:=fs hB 11
      simp only [e0] at vz ⊢
      go_simp
      exact vz _ _ _ rfl ⟨X,rfl,hq⟩ (sy vA vy) bR
     refine aa (vw T) (fun vs L9 w9 vA vy hB K9 vz=>?_) ?_
     next =>
      replace vy:=sb vy vA
      obtain ⟨X,e0,hq⟩:=fs hB 11
      simp only [e0] at vz ⊢
      go_simp
      exact vz _ _ rfl (sy vA vy) bR
     refine aa (undef) (fun vs L9 w9 vA vy hB K9 vz=>?_) ?_
     next =>
      replace vy:=vy.here vA
      obtain ⟨X,e0,hq⟩:=fs hB 12
      simp only [e0] at vz ⊢
      have Lr:=K2.below vy K2.lt
      obtain ⟨z0,z1,z2,z3,z4,z5,z6,z7⟩:=cells8 Lr
      obtain ⟨f0,f1,f2,f3,f4,f5,f6,f7⟩:=frz8 Lr
      have wb:=jZ (jw.put (X:=X) Lr hq)
      have wI:=jZ (eO (g:=gr) (b6.trans (vy.mono b6.size)) we (F X.TA X.t.length X.tc) (F X.OA X.o.length X.oc) (O U X.gt) (O U X.sd) (O U X.ms) (vw l.D) (vw l.P) (O U l.n))
      clear Lr hq
      go_simp
      exact vz _ _ rfl (Sw.turn ⟨wI.out,wb.out⟩) nq
     refine aa _ (va1 13) ?_
     refine au fun vs L9 w9 vI vy hB=>?_
     replace vy:=vy.done vI dD
     have dl:=ag.eq (hB 15 _ rfl rfl dD)
     simp only [dl]
     clear hB dl
     obtain ⟨hD,X,hN,hV⟩:=vy
     obtain ⟨k0,k1,k2,k3,k4,k5,k6,k7⟩:=cells8 hN
     clear hN
     go_wp2
     refine bodyPost_ret (v:=.tuple #[aI X l,vw T]) (by simp [results,Tryz.results47,go_sem, *]) rfl (bo.mk HT.out hV hD)
    have f1:(w0.toList == [98,97,99,107])=false:=bT h1
    by_cases h2:w0=⟨#[115,101,108,108]⟩
    ·subst h2
     have Am:R=bW x ⟨4,a0,a1,a2⟩:=by rw [wX]; unfold dr; rw [if_neg dD,if_neg dD,if_pos rfl]; rfl
     have hc:=fun W hR=>fM x l ⟨4,a0,a1,a2⟩ W hR vM
     rw [← Am] at hc
     obtain ⟨T,hT⟩ : ∃ T,js R=T:=⟨_,rfl⟩
     unfold bo at hc
     rw [hT] at hc
     have HT:=jZ hT
     clear hT wX Am
     go_wp2_with fail
     refine al (Sw 14 (fun W9=>Below wr.heap.size wr W9) (fun W9=>Below w.heap.size w W9∧jw W9 w.heap.size gr x l (fx x R))) (fun i w1 w2=>i ∉ [14]→Below w1.heap.size w1 w2) kZ kZ kZ (Sw.start jB.drew) ?_
     simp only [aw,Act.put,sA,gs0,gs1,Nat.zero_add,Nat.reduceAdd]
     refine aa _ (vb0C8 K1) ?_
     refine aa _ vb0 ?_
     refine aa _ (vb1 1) ?_
     apply aa
     case h1 =>
      intro vs L9 w9 vA vy hB K9 vz
      replace vy:=sb vy vA
      have d2:=fe hB 2
      simp only [d2] at vz ⊢
      have q0:w9.cell? ⟨gN,0,none⟩=some (O U a0):=(vy.cell LN.lt).trans d0n
      simp only [Act.put,sA,gs0,gs1] at vz
      go_simp
      exact vz _ _ rfl (sy vA vy) bR
     refine aa _ vb0 ?_
     refine aa _ (vb1 4) ?_
     apply aa
     case h1 =>
      intro vs L9 w9 vA vy hB K9 vz
      replace vy:=sb vy vA
      have d5:=fe hB 5
      simp only [d5] at vz ⊢
      have q0:w9.cell? ⟨gN,1,none⟩=some (O U a1):=(vy.cell LN.lt).trans d1n
      simp only [Act.put,sA,gs0,gs1] at vz
      go_simp
      exact vz _ _ rfl (sy vA vy) bR
     refine aa _ vb0 ?_
     refine aa _ (vb1 7) ?_
     apply aa
     case h1 =>
      intro vs L9 w9 vA vy hB K9 vz
      replace vy:=sb vy vA
      have d8:=fe hB 8
      simp only [d8] at vz ⊢
      have q0:w9.cell? ⟨gN,2,none⟩=some (O U a2):=(vy.cell LN.lt).trans d2n
      simp only [Act.put,sA,gs0,gs1] at vz
      go_simp
      exact vz _ _ rfl (sy vA vy) bR
     refine aa _ (vb3 3 6 9) ?_
     refine sm [14] (fun v w9=>∃ X:aO,v=.tuple #[aI X l,vw T]∧fw w9 w.heap.size x l (fx x R) (aI X l)) (fun vs L9 w9 vA vy hB K9 vz=>?_) ?_
     next =>
      replace vy:=sb vy vA
      have d0:=fe hB 0
      have d10:=fe hB 10
      simp only [d0,d10] at vz ⊢
      simp only [Act.put,sA,gs0,gs1] at vz
      go_simp
      refine (hc w9 (zX.then vy)).mono ?_
      rintro en w8 ⟨v,rfl,hv,vB⟩
      obtain ⟨X,rfl⟩:=hv.con
      exact vz _ _ _ rfl ⟨X,rfl,hv.lower (jT b6.size vy.size)⟩ (Sw.stay vA kZ dD (vy.trans (vB.mono vy.size))) (fun _=>vB)
     refine sm [14] (fun v w9=>∃ X:aO,v=aI X l∧fw w9 w.heap.size x l (fx x R) (aI X l)) (fun vs L9 w9 vA vy hB K9 vz=>?_) ?_
     next =>
      replace vy:=sb vy vA
      simp only [Act.put,sA,gs0,gs1] at vz
      obtain ⟨X,e0,hq⟩:=fs hB 11
      simp only [e0] at vz ⊢
      go_simp
      exact vz _ _ _ rfl ⟨X,rfl,hq⟩ (sy vA vy) bR
     refine aa (vw T) (fun vs L9 w9 vA vy hB K9 vz=>?_) ?_
     next =>
      replace vy:=sb vy vA
      obtain ⟨X,e0,hq⟩:=fs hB 11
      simp only [e0] at vz ⊢
      go_simp
      exact vz _ _ rfl (sy vA vy) bR
     refine aa (undef) (fun vs L9 w9 vA vy hB K9 vz=>?_) ?_
     next =>
      replace vy:=vy.here vA
      obtain ⟨X,e0,hq⟩:=fs hB 12
      simp only [e0] at vz ⊢
      have Lr:=K2.below vy K2.lt
      obtain ⟨z0,z1,z2,z3,z4,z5,z6,z7⟩:=cells8 Lr
      obtain ⟨f0,f1,f2,f3,f4,f5,f6,f7⟩:=frz8 Lr
      have wb:=jZ (jw.put (X:=X) Lr hq)
      have wI:=jZ (eO (g:=gr) (b6.trans (vy.mono b6.size)) we (F X.TA X.t.length X.tc) (F X.OA X.o.length X.oc) (O U X.gt) (O U X.sd) (O U X.ms) (vw l.D) (vw l.P) (O U l.n))
      clear Lr hq
      go_simp
      exact vz _ _ rfl (Sw.turn ⟨wI.out,wb.out⟩) nq
     refine aa _ (va1 13) ?_
     refine au fun vs L9 w9 vI vy hB=>?_
     replace vy:=vy.done vI dD
     have dl:=ag.eq (hB 15 _ rfl rfl dD)
     simp only [dl]
     clear hB dl
     obtain ⟨hD,X,hN,hV⟩:=vy
     obtain ⟨k0,k1,k2,k3,k4,k5,k6,k7⟩:=cells8 hN
     clear hN
     go_wp2
     refine bodyPost_ret (v:=.tuple #[aI X l,vw T]) (by simp [results,Tryz.results47,go_sem, *]) rfl (bo.mk HT.out hV hD)
    have f2:(w0.toList == [115,101,108,108])=false:=bT h2
    by_cases h3:w0=⟨#[109,111,118,101]⟩
    ·subst h3
     have Am:R=bW x ⟨6,a0,a1,a2⟩:=by rw [wX]; unfold dr; rw [if_neg dD,if_neg dD,if_neg dD,if_pos rfl]; rfl
     have hc:=fun W hR=>fM x l ⟨6,a0,a1,a2⟩ W hR vM
     rw [← Am] at hc
     obtain ⟨T,hT⟩ : ∃ T,js R=T:=⟨_,rfl⟩
     unfold bo at hc
     rw [hT] at hc
     have HT:=jZ hT
     clear hT wX Am
     go_wp2_with fail
     refine al (Sw 14 (fun W9=>Below wr.heap.size wr W9) (fun W9=>Below w.heap.size w W9∧jw W9 w.heap.size gr x l (fx x R))) (fun i w1 w2=>i ∉ [14]→Below w1.heap.size w1 w2) kZ kZ kZ (Sw.start jB.drew) ?_
     simp only [aw,Act.put,sA,gs0,gs1,Nat.zero_add,Nat.reduceAdd]
     refine aa _ (vb0C8 K1) ?_
     refine aa _ vb0 ?_
     refine aa _ (vb1 1) ?_
     apply aa
     case h1 =>
      intro vs L9 w9 vA vy hB K9 vz
      replace vy:=sb vy vA
      have d2:=fe hB 2
      simp only [d2] at vz ⊢
      have q0:w9.cell? ⟨gN,0,none⟩=some (O U a0):=(vy.cell LN.lt).trans d0n
      simp only [Act.put,sA,gs0,gs1] at vz
      go_simp
      exact vz _ _ rfl (sy vA vy) bR
     refine aa _ vb0 ?_
     refine aa _ (vb1 4) ?_
     apply aa
     case h1 =>
      intro vs L9 w9 vA vy hB K9 vz
      replace vy:=sb vy vA
      have d5:=fe hB 5
      simp only [d5] at vz ⊢
      have q0:w9.cell? ⟨gN,1,none⟩=some (O U a1):=(vy.cell LN.lt).trans d1n
      simp only [Act.put,sA,gs0,gs1] at vz
      go_simp
      exact vz _ _ rfl (sy vA vy) bR
     refine aa _ vb0 ?_
     refine aa _ (vb1 7) ?_
     apply aa
     case h1 =>
      intro vs L9 w9 vA vy hB K9 vz
      replace vy:=sb vy vA
      have d8:=fe hB 8
      simp only [d8] at vz ⊢
      have q0:w9.cell? ⟨gN,2,none⟩=some (O U a2):=(vy.cell LN.lt).trans d2n
      simp only [Act.put,sA,gs0,gs1] at vz
      go_simp
      exact vz _ _ rfl (sy vA vy) bR
     refine aa _ (vb3 3 6 9) ?_
     refine sm [14] (fun v w9=>∃ X:aO,v=.tuple #[aI X l,vw T]∧fw w9 w.heap.size x l (fx x R) (aI X l)) (fun vs L9 w9 vA vy hB K9 vz=>?_) ?_
     next =>
      replace vy:=sb vy vA
      have d0:=fe hB 0
      have d10:=fe hB 10
      simp only [d0,d10] at vz ⊢
      simp only [Act.put,sA,gs0,gs1] at vz
      go_simp
      refine (hc w9 (zX.then vy)).mono ?_
      rintro en w8 ⟨v,rfl,hv,vB⟩
      obtain ⟨X,rfl⟩:=hv.con
      exact vz _ _ _ rfl ⟨X,rfl,hv.lower (jT b6.size vy.size)⟩ (Sw.stay vA kZ dD (vy.trans (vB.mono vy.size))) (fun _=>vB)
     refine sm [14] (fun v w9=>∃ X:aO,v=aI X l∧fw w9 w.heap.size x l (fx x R) (aI X l)) (fun vs L9 w9 vA vy hB K9 vz=>?_) ?_
     next =>
      replace vy:=sb vy vA
      simp only [Act.put,sA,gs0,gs1] at vz
      obtain ⟨X,e0,hq⟩:=fs hB 11
      simp only [e0] at vz ⊢
      go_simp
      exact vz _ _ _ rfl ⟨X,rfl,hq⟩ (sy vA vy) bR
     refine aa (vw T) (fun vs L9 w9 vA vy hB K9 vz=>?_) ?_
     next =>
      replace vy:=sb vy vA
      obtain ⟨X,e0,hq⟩:=fs hB 11
      simp only [e0] at vz ⊢
      go_simp
      exact vz _ _ rfl (sy vA vy) bR
     refine aa (undef) (fun vs L9 w9 vA vy hB K9 vz=>?_) ?_
     next =>
      replace vy:=vy.here vA
      obtain ⟨X,e0,hq⟩:=fs hB 12
      simp only [e0] at vz ⊢
      have Lr:=K2.below vy K2.lt
      obtain ⟨z0,z1,z2,z3,z4,z5,z6,z7⟩:=cells8 Lr
      obtain ⟨f0,f1,f2,f3,f4,f5,f6,f7⟩:=frz8 Lr
      have wb:=jZ (jw.put (X:=X) Lr hq)
      have wI:=jZ (eO (g:=gr) (b6.trans (vy.mono b6.size)) we (F X.TA X.t.length X.tc) (F X.OA X.o.length X.oc) (O U X.gt) (O U X.sd) (O U X.ms) (vw l.D) (vw l.P) (O U l.n))
      clear Lr hq
      go_simp
      exact vz _ _ rfl (Sw.turn ⟨wI.out,wb.out⟩) nq
     refine aa _ (va1 13) ?_
     refine au fun vs L9 w9 vI vy hB=>?_
     replace vy:=vy.done vI dD
     have dl:=ag.eq (hB 15 _ rfl rfl dD)
     simp only [dl]
     clear hB dl
     obtain ⟨hD,X,hN,hV⟩:=vy
     obtain ⟨k0,k1,k2,k3,k4,k5,k6,k7⟩:=cells8 hN
     clear hN
     go_wp2
     refine bodyPost_ret (v:=.tuple #[aI X l,vw T]) (by simp [results,Tryz.results47,go_sem, *]) rfl (bo.mk HT.out hV hD)
    have f3:(w0.toList == [109,111,118,101])=false:=bT h3
    have Am:Hid (R=none):=by rw [Hid,wX]; unfold dr; rw [if_neg h0,if_neg h1,if_neg h2,if_neg h3]; rfl
    clear h0 h1 h2 h3 wX
    obtain ⟨c0,c1,c2,c3,c4,c5,c6,c7⟩:=cells8 K1
    obtain ⟨z0,z1,z2,z3,z4,z5,z6,z7⟩:=cells8 K2
    obtain ⟨ff0,ff1,ff2,ff3,ff4,ff5,ff6,ff7⟩:=frz8 K2
    have bz:=jZ (eO (g:=gr) (b6) we (F x.TA x.t.length x.tc) (F x.OA x.o.length x.oc) (O U x.gt) (O U x.sd) (O U x.ms) (vw l.D) (vw l.P) (O U l.n))
    clear K1 K2 b6
    go_wp2_with fail
    refine bodyPost_ret (v:=.tuple #[aI x l,vw ⟨#[63]⟩]) (by simp [results,Tryz.results47,go_sem, *]) rfl (by rw [Am.out]; exact ⟨_,rfl,.inl ⟨rfl,rfl⟩,bz.out⟩)
   have z0:((m.length:Int) == 0)=false:=beq_false_of_ne oM
   have z1:((m.length:Int) == 1)=false:=beq_false_of_ne oM
   have z2:((m.length:Int) == 2)=false:=beq_false_of_ne oM
   have z3:((m.length:Int) == 3)=false:=beq_false_of_ne oM
   have Am:Hid (R=none):=by rw [Hid,HE.out]; exact qE oM
   clear HE CR AQ BN
   obtain ⟨c0,c1,c2,c3,c4,c5,c6,c7⟩:=cells8 K1
   obtain ⟨z0,z1,z2,z3,z4,z5,z6,z7⟩:=cells8 K2
   obtain ⟨ff0,ff1,ff2,ff3,ff4,ff5,ff6,ff7⟩:=frz8 K2
   have bz:=jZ (eO (g:=gr) (b6) we (F x.TA x.t.length x.tc) (F x.OA x.o.length x.oc) (O U x.gt) (O U x.sd) (O U x.ms) (vw l.D) (vw l.P) (O U l.n))
   clear K1 K2 b6
   go_wp2_with fail
   refine bodyPost_ret (v:=.tuple #[aI x l,vw ⟨#[63]⟩]) (by simp [results,Tryz.results47,go_sem, *]) rfl (by rw [Am.out]; exact ⟨_,rfl,.inl ⟨rfl,rfl⟩,bz.out⟩)
end Go.Proofs.YtoeoimhemojdeaaGreatDoor
