/- Lemmas. -/
import Derived.Deep.DeepCutAuto
import Derived.Test.YtoeoimhemojdeaaGreatDoorFs49

set_option linter.unusedVariables false
set_option linter.unusedSimpArgs false
set_option maxHeartbeats 8000000
open Go.Value renaming int → O, slice → F, string → wG
open Go.IntKind renaming i64 → U
open Go.Proofs.Tryz renaming prog → wH

namespace Go.Proofs.YtoeoimhemojdeaaGreatDoor
open Go.RowKit
set_option maxRecDepth 100000 in
theorem rI (x:aO) (l:Lg) (s:ByteArray) (w:World) (h:aQ w w.heap.size x) (tl:x.t.length≤1048576) (ol:x.o.length≤1048576) (hs:l.D.size+l.P.size≤2000000) (zc:s.size≤1048576) (zS:LW w) :
  Calls wH 21 #[aJ x l,wG s] w (eQ w (dE x.c l s) (cl x.c l s)):=by
 have b0:=bZ w (.cells #[F x.TA x.t.length x.tc,F x.OA x.o.length x.oc,O U x.gt,O U x.sd,O U x.ms,wG l.D,wG l.P,O U l.n] 42)
 have L0:=ai.new w 42 #[F x.TA x.t.length x.tc,F x.OA x.o.length x.oc,O U x.gt,O U x.sd,O U x.ms,wG l.D,wG l.P,O U l.n]
 have hW:=h.up b0 nR
 have Cx:=zS.then b0
 have SP:=fun W hL=>pE s 10 W oM hL
 have VA:=fun W hW hL=>dK x l W hW hs (LW.tab hL)
 rw [qp] at VA
 have Dk:=iU (b:=10) (n:=1048576) (s:=bl s) (by rw [an]; exact zc)
 have Bz:=iT (b:=10) (n:=1048576) (s:=bl s) (by rw [an]; exact zc)
 have SN:=jZ (fun h=>vC (y:=x.c) (l:=l) (s:=s) h)
 have SY:=jZ (fun h h1 h2=>tO (y:=x.c) (l:=l) (s:=s) h h1 h2)
 have Cr:=jZ (fun h=>kL (y:=x.c) (l:=l) h)
 obtain ⟨ps,zL⟩ : ∃ ps,aI 10 (bl s)=ps:=⟨_,rfl⟩
 simp only [zL] at SP Dk Bz SN SY
 have Kk:=jZ Bz
 obtain ⟨Ct,Ex⟩:=Dk
 obtain ⟨mR,hmR⟩ : ∃ mR,dE x.c l s=mR:=⟨_,rfl⟩
 obtain ⟨oR,hoR⟩ : ∃ oR,cl x.c l s=oR:=⟨_,rfl⟩
 rw [hmR,hoR] at SN SY ⊢
 clear zL Bz hmR hoR
 obtain ⟨ov,CO⟩ : ∃ ov,oO x.c l=ov:=⟨_,rfl⟩
 rw [CO] at SN SY VA Cr
 have Kl:=jZ CO
 clear CO
 go_enter Tryz.func21,Tryz.ntmps21
 go_wp2_with fail
 generalize w.alloc (.cells #[F x.TA x.t.length x.tc,F x.OA x.o.length x.oc,O U x.gt,O U x.sd,O U x.ms,wG l.D,wG l.P,O U l.n] 42)=W at b0 L0 hW Cx ⊢
 refine (SP W Cx).mono ?_
 rintro e w1 ⟨rfl,LT,wN⟩
 have L1:=L0.below wN L0.lt
 have yP:=hW.then wN
 have Km:=Cx.then wN
 have b1:=b0.trans (wN.mono b0.size)
 have IE:w.heap.size < W.heap.size:=L0.lt
 generalize W.heap.size=gp at LT IE ⊢
 have LT0:∃ rest,ai w1 gp 9 (dP ps++rest):=⟨[],by rw [List.append_nil]; exact LT⟩
 obtain ⟨rest,LT1⟩:=LT0
 clear LT L0 hW Cx b0 wN SP
 obtain ⟨cp,EP⟩ : ∃ cp,cp=ps.length:=⟨_,rfl⟩
 obtain ⟨z0,z1,z2,z3,z4,z5,z6,z7⟩:=cells8 L1
 go_wp2_with fail
 refine (VA w1 yP Km).mono ?_
 rintro e w2 ⟨rfl,wM⟩
 have L2:=L1.below wM L1.lt
 have y5:=yP.then wM
 have b2:=b1.trans (wM.mono b1.size)
 have LT2:=LT1.below wM LT1.lt
 have Om:=Km.then wM
 clear Km
 clear L1 yP b1 LT1 wM VA z0 z1 z2 z3 z4 z5 z6 z7
 cases ov
 ·have HN:=SN.out (.inl rfl)
  clear SN SY Cr
  go_wp2
  refine bodyPost_ret (v:=.tuple #[F none 0 0,.bool false]) (by simp [results,Tryz.results21,go_sem, *]) rfl (eQ.mk HN.2 HN.1 rfl (World.ownsRow_nil _ _ _ _) b2)
 ·by_cases hl30:ps.length≤30
  ·by_cases DQ:s.size≤4000
   ·have HN:=SY.out rfl DQ hl30
    have HS:=Cr.out rfl
    obtain ⟨Fm,Hk⟩:=HN
    have Kn:=jZ Hk
    have DX:=jZ Fm
    clear SN SY Cr Fm Hk tl ol hs
    obtain ⟨tl,ol,hs⟩:=HS
    have hs4' : ¬ (4000:Int) < (s.size:Int):=oM
    have hl30' : ¬ (30:Int) < (ps.length:Int):=oM
    have H0:Hid (ck (ps.drop 0) x.c l []=ck ps x.c l []):=rfl
    have Eh:Hid (lY w2 (gp+1) none 0 []):=.inl (World.ownsRow_nil _ _ _ _)
    have Ko:gp < w2.heap.size:=LT2.lt
    have CZ:=jZ y5
    have Bj:=jZ L2
    have AG:=jZ LT2
    clear y5 L2 LT2
    go_wp2_with fail
    go_loopw [7,9,10,11,29] (fun out _ _ _ i wr=>∃ (k:Nat) (X:aO) (l1:Lg) (acc:List ByteArray) (A7:Option Addr) (c7:Nat),k≤ps.length∧i=O U k∧out=F A7 acc.length c7∧Hid (acc.length=k)∧Hid (oO X.c l1=true)∧Hid (aQ wr wr.heap.size X)∧Hid (ai wr w.heap.size 42 [F X.TA X.t.length X.tc,F X.OA X.o.length X.oc,O U X.gt,O U X.sd,O U X.ms,wG l1.D,wG l1.P,O U l1.n])∧Hid (lY wr (gp+1) A7 c7 acc)∧Hid (ai wr gp 9 (dP ps++rest))∧Below w.heap.size w wr∧Hid (ck (ps.drop k) X.c l1 acc=ck ps x.c l [])) (fun _ _ _ _ i _=>ps.length - (intOf i).toNat)
    case atStart=>exact ⟨0,x,l,[],none,0,Nat.zero_le _,rfl,rfl,rfl,Kl,CZ,Bj,Eh,AG,b2,H0⟩
    case round =>
     clear b2 Eh CZ Bj AG H0 hs ol tl
     obtain ⟨k,X,l1,acc,A7,c7,hk,rfl,rfl,Fw,xf,HX,HL,HI,HT,yM,HR⟩:=hrel
     have Kp:acc.length≤30:=by have:=Fw.out; omega
     by_cases wQ:k < ps.length
     ·have yQ:=HT.out.cell k
      rw [fU ps rest k wQ] at yQ
      have yW:=jZ (kX wQ X.c l1 acc)
      have zM:=Kk.out _ (List.getElem_mem wQ)
      obtain ⟨ln,zz⟩ : ∃ ln:ByteArray,ln=⟨(ps[k]).toArray⟩:=⟨_,rfl⟩
      have GP:ln.size≤1048576:=by rw [zz]; show (ps[k]).toArray.size≤_; rw [List.size_toArray]; exact zM
      rw [← zz] at yQ yW
      clear zM
      have HS:=kL xf.out
      obtain ⟨Cf,Cg,Kq⟩:=HS
      have L3:=HL.out
      have hX:=HX.out
      have hgL:=L3.lt
      have hgT:=HT.out.lt
      have EX:=sU X l1 ln wr hX Cf Cg Kq GP (zS.then yM)
      have eT:=tK X l1 ln
      have eO:=qn X l1 ln
      have eL:=qo X l1 ln
      clear zz
      obtain ⟨z0,z1,z2,z3,z4,z5,z6,z7⟩:=cells8 L3
      go_wp2_with fail
      refine EX.mono ?_
      rintro e w3 ⟨v,rfl,hv,wZ⟩
      rw [eT]
      rw [eO,eL] at hv
      have Cs:=jZ (nz ln xf.out)
      generalize IF:lp X.c l1 ln=rp at yW ⊢
      generalize qt X.c l1 ln=y at hv yW Cs
      generalize oG X.c l1 ln=l2 at hv yW Cs
      clear eT eO eL EX IF xf
      obtain ⟨TA,tc,OA,oc,rfl,zd,zo⟩:=hv
      have wO:=(Below.refl w3.heap.size w3).alloc nR (.cells #[F TA y.t.length tc,F OA y.o.length oc,O U y.gt,O U y.sd,O U y.ms,wG l2.D,wG l2.P,O U l2.n] 42)
      have P:=ai.new w3 42 #[F TA y.t.length tc,F OA y.o.length oc,O U y.gt,O U y.sd,O U y.ms,wG l2.D,wG l2.P,O U l2.n]
      have zy:=av wZ wO
      have L4:=L3.below zy L3.lt
      have Kr:=HI.out.below zy
      have xt:=HT.out.below zy HT.out.lt
      have xW:=ac zd wO
      have DH:=ac zo wO
      have b4:=yM.trans (zy.mono yM.size)
      clear wO zy zd zo HT HI HL HX L3 hX z0 z1 z2 z3 z4 z5 z6 z7 yQ
      go_upto_region 9 with fail
      generalize Nr:w3.alloc (.cells #[F TA y.t.length tc,F OA y.o.length oc,O U y.gt,O U y.sd,O U y.ms,wG l2.D,wG l2.P,O U l2.n] 42)=w4 at P L4 Kr xt xW DH b4 ⊢
      have xL:wr.heap.size≤w3.heap.size:=wZ.size
      clear Nr wZ
      generalize w3.heap.size=g2 at P xL ⊢
      obtain ⟨p0,p1,p2,p3,p4,p5,p6,p7⟩:=cells8 P
      obtain ⟨z0,z1,z2,z3,z4,z5,z6,z7⟩:=cells8 L4
      obtain ⟨f0,f1,f2,f3,f4,f5,f6,f7⟩:=frz8 L4
      obtain ⟨w5,zU,N5,b5,gr5⟩:=vB (g:=w.heap.size) L4 b4 nR (F TA y.t.length tc) (F OA y.o.length oc) (O U y.gt) (O U y.sd) (O U y.ms) (wG l2.D) (wG l2.P) (O U l2.n)
      have Fx:=Kr.kept L4 tN gr5
      have xN:=xt.kept gr5 (by intro e; injection e with e; omega)
      have xW:=ak xW L4 fj gr5
      have DH:=ak DH L4 fk gr5
      go_upto_region 10 with fail
      rw [zU.out]
      clear zU P L4 Kr xt b4 gr5 p0 p1 p2 p3 p4 p5 p6 p7 z0 z1 z2 z3 z4 z5 z6 z7 f0 f1 f2 f3 f4 f5 f6 f7
      have Hl:=jZ Fx
      have Ks:gp+1≤w5.heap.size:=xN.lt
      have Fy:acc.length < 1000000:=oM
      go_wp2_with (at_builtin; refine lZ (w0:=w5) rfl _ _ rfl (gp+1) A7 c7 acc.length acc rfl rfl Hl rp 1 _ rfl (by first | rfl | exact Array.size_push _) Fy Ks rfl rfl rfl rfl ?_; intro A8 c8 w6 row AM gr6 BA xn)
      have b6:=b5.trans (xn.mono (Nat.le_of_lt (Nat.lt_succ_of_lt IE)))
      have Hm:=BA.own gr6 xW dD
      have Hn:=BA.own gr6 DH dD
      have h5:Hid (aQ w6 w6.heap.size (y.at TA tc OA oc)):=⟨aw Hm,aw Hn⟩
      have h6:=jZ (N5.kept gr6 (BA.far _ _ _ tN N5))
      have h7:=jZ (xN.kept gr6 (fun e=>by have:=(BA.lt _ e.symm).1; omega))
      have h8:Hid (lY w6 (gp+1) A8 c8 (acc++[rp])):=.inl AM.out
      have Cd:(acc++[rp]).length=acc.length+1:=by rw [List.length_append]; rfl
      clear gr6 xn Fx AM xN xW DH N5 b5 Hl Hm Hn BA
      go_wp2
      go_roundw
      case rel=>exact ⟨k+1,y.at TA tc OA oc,l2,acc++[rp],A8,c8,oM,by go_num,by rw [Cd],by rw [Hid,Cd,Fw.out],Cs,h5,h6,h8,h7,b6,by rw [Hid,← HR.out,yW.out]; rfl⟩
      case measure=>simp [intOf]; omega
     ·have zZ:ps.drop k = []:=List.drop_eq_nil_of_le oM
      have HR':=HR.out
      rw [zZ,ck] at HR'
      have Ku:Hid (mR=acc):=by rw [Hid,Kn.out,← HR']
      have wT:∃ t,acc=t:=⟨_,rfl⟩
      have Kv:Hid (ku wr w.heap.size A7 c7 acc):=by
       rcases HI.out with h | ⟨h1,_⟩
       ·exact ah h oM
       ·have:=Fw.out; rw [h1] at this; simp at this; omega
      clear zZ HR' HR wT
      go_wp2
      refine bodyPost_ret (v:=.tuple #[F A7 acc.length c7,.bool true]) (by simp [results,Tryz.results21,go_sem, *]) rfl (eQ.mk Ku.out DX.out rfl Kv.out yM)
   ·have HN:=SN.out (.inr (.inl oM))
    have hs4' : (4000:Int) < (s.size:Int):=oM
    clear SN SY Cr
    go_wp2
    refine bodyPost_ret (v:=.tuple #[F none 0 0,.bool false]) (by simp [results,Tryz.results21,go_sem, *]) rfl (eQ.mk HN.2 HN.1 rfl (World.ownsRow_nil _ _ _ _) b2)
  ·have HN:=SN.out (.inr (.inr oM))
   have hl30' : (30:Int) < (ps.length:Int):=oM
   clear SN SY Cr
   go_wp2
   refine bodyPost_ret (v:=.tuple #[F none 0 0,.bool false]) (by simp [results,Tryz.results21,go_sem, *]) rfl (eQ.mk HN.2 HN.1 rfl (World.ownsRow_nil _ _ _ _) b2)
set_option maxRecDepth 100000 in
theorem rJ (x:aO) (l:Lg) (s:ByteArray) (w:World) (h:aQ w w.heap.size x) (tl:x.t.length≤1048576) (ol:x.o.length≤1048576) (hs:l.D.size+l.P.size≤2000000) (zc:s.size≤1048576) :
  Calls wH 20 #[aJ x l,wG s] w (eQ w (dE x.c l s) (cl x.c l s)):=by
 have b0:=bZ w (.cells #[F x.TA x.t.length x.tc,F x.OA x.o.length x.oc,O U x.gt,O U x.sd,O U x.ms,wG l.D,wG l.P,O U l.n] 42)
 have L0:=ai.new w 42 #[F x.TA x.t.length x.tc,F x.OA x.o.length x.oc,O U x.gt,O U x.sd,O U x.ms,wG l.D,wG l.P,O U l.n]
 have hW:=h.up b0 nR
 have wO:=(Below.refl (w.alloc (.cells #[F x.TA x.t.length x.tc,F x.OA x.o.length x.oc,O U x.gt,O U x.sd,O U x.ms,wG l.D,wG l.P,O U l.n] 42)).heap.size (w.alloc (.cells #[F x.TA x.t.length x.tc,F x.OA x.o.length x.oc,O U x.gt,O U x.sd,O U x.ms,wG l.D,wG l.P,O U l.n] 42))).alloc nR (.cells #[] 9)
 have L1:=L0.below wO L0.lt
 have HO:ku ((w.alloc (.cells #[F x.TA x.t.length x.tc,F x.OA x.o.length x.oc,O U x.gt,O U x.sd,O U x.ms,wG l.D,wG l.P,O U l.n] 42)).alloc (.cells #[] 9)) w.heap.size (some ⟨w.heap.size+1,0,none⟩) 0 []:=dw (ai.new1 w (.cells #[F x.TA x.t.length x.tc,F x.OA x.o.length x.oc,O U x.gt,O U x.sd,O U x.ms,wG l.D,wG l.P,O U l.n] 42) 9 #[]) oM
 have b1:=b0.trans (wO.mono b0.size)
 have yP:=hW.then wO
 clear b0 hW L0 wO
 have SP:=fun W=>jO s 10 W oM
 have VA:=fun W hW=>eH x l W hW hs
 rw [qp] at VA
 have Dk:=iU (b:=10) (n:=1048576) (s:=bl s) (by rw [an]; exact zc)
 have Bz:=iT (b:=10) (n:=1048576) (s:=bl s) (by rw [an]; exact zc)
 have SN:=jZ (fun h=>vC (y:=x.c) (l:=l) (s:=s) h)
 have SY:=jZ (fun h h1 h2=>tO (y:=x.c) (l:=l) (s:=s) h h1 h2)
 have Cr:=jZ (fun h=>kL (y:=x.c) (l:=l) h)
 obtain ⟨ps,zL⟩ : ∃ ps,aI 10 (bl s)=ps:=⟨_,rfl⟩
 simp only [zL] at SP Dk Bz SN SY
 have Kk:=jZ Bz
 obtain ⟨Ct,Ex⟩:=Dk
 obtain ⟨mR,hmR⟩ : ∃ mR,dE x.c l s=mR:=⟨_,rfl⟩
 obtain ⟨oR,hoR⟩ : ∃ oR,cl x.c l s=oR:=⟨_,rfl⟩
 rw [hmR,hoR] at SN SY ⊢
 clear zL Bz hmR hoR
 obtain ⟨ov,CO⟩ : ∃ ov,oO x.c l=ov:=⟨_,rfl⟩
 rw [CO] at SN SY VA Cr
 have Kl:=jZ CO
 clear CO
 go_enter Tryz.func20,Tryz.ntmps20
 go_wp2_with fail
 generalize ((w.alloc (.cells #[F x.TA x.t.length x.tc,F x.OA x.o.length x.oc,O U x.gt,O U x.sd,O U x.ms,wG l.D,wG l.P,O U l.n] 42)).alloc (.cells #[] 9))=W at b1 L1 yP HO ⊢
 refine (SP W).mono ?_
 rintro e w1 ⟨gp,cp,rest,rfl,LT1,Ho,wN⟩
 have L1:=L1.below wN L1.lt
 have yP:=yP.then wN
 have b1:=b1.trans (wN.mono b1.size)
 have LL:=jZ (ac HO wN)
 have IE:w.heap.size < gp:=jL (Nat.lt_trans (Nat.lt_succ_self _) (HO.lt _ rfl).2) Ho
 clear wN SP HO Ho
 obtain ⟨z0,z1,z2,z3,z4,z5,z6,z7⟩:=cells8 L1
 go_wp2_with fail
 refine (VA w1 yP).mono ?_
 rintro e w2 ⟨rfl,wM⟩
 have L2:=L1.below wM L1.lt
 have y5:=yP.then wM
 have b2:=b1.trans (wM.mono b1.size)
 have LT2:=LT1.below wM LT1.lt
 have Kw:=jZ (ac LL.out wM)
 clear LL
 clear L1 yP b1 LT1 wM VA z0 z1 z2 z3 z4 z5 z6 z7
 cases ov
 ·have HN:=SN.out (.inl rfl)
  clear SN SY Cr
  go_wp2
  refine bodyPost_ret (v:=.tuple #[F (some ⟨w.heap.size+1,0,none⟩) 0 0,.bool false]) (by simp [results,Tryz.results20,go_sem, *]) rfl (eQ.mk HN.2 HN.1 rfl Kw.out b2)
 ·by_cases hl30:ps.length≤30
  ·by_cases DQ:s.size≤4000
   ·have HN:=SY.out rfl DQ hl30
    have HS:=Cr.out rfl
    obtain ⟨Fm,Hk⟩:=HN
    have Kn:=jZ Hk
    have DX:=jZ Fm
    clear SN SY Cr Fm Hk tl ol hs
    obtain ⟨tl,ol,hs⟩:=HS
    have hs4' : ¬ (4000:Int) < (s.size:Int):=oM
    have hl30' : ¬ (30:Int) < (ps.length:Int):=oM
    have H0:Hid (ck (ps.drop 0) x.c l []=ck ps x.c l []):=rfl
    have Eh:Hid (lY w2 (gp+1) (some ⟨w.heap.size+1,0,none⟩) 0 []):=.inr ⟨rfl,rfl,_,rfl⟩
    have Ko:gp < w2.heap.size:=LT2.lt
    have CZ:=jZ y5
    have Bj:=jZ L2
    have AG:=jZ LT2
    clear y5 L2 LT2
    go_wp2_with fail
    go_loopw [6,8,9] (fun out _ i wr=>∃ (k:Nat) (X:aO) (l1:Lg) (acc:List ByteArray) (A7:Option Addr) (c7:Nat),k≤ps.length∧i=O U k∧out=F A7 acc.length c7∧Hid (acc.length=k)∧Hid (oO X.c l1=true)∧Hid (aQ wr wr.heap.size X)∧Hid (ai wr w.heap.size 42 [F X.TA X.t.length X.tc,F X.OA X.o.length X.oc,O U X.gt,O U X.sd,O U X.ms,wG l1.D,wG l1.P,O U l1.n])∧Hid (lY wr (gp+1) A7 c7 acc)∧Hid (ai wr gp 9 (dP ps++rest))∧Below w.heap.size w wr∧Hid (ck (ps.drop k) X.c l1 acc=ck ps x.c l [])) (fun _ _ i _=>ps.length - (intOf i).toNat)
    case atStart=>exact ⟨0,x,l,[],(some ⟨w.heap.size+1,0,none⟩),0,Nat.zero_le _,rfl,rfl,rfl,Kl,CZ,Bj,Eh,AG,b2,H0⟩
    case round =>
     clear b2 Eh CZ Bj AG H0 hs ol tl
     obtain ⟨k,X,l1,acc,A7,c7,hk,rfl,rfl,Fw,xf,HX,HL,HI,HT,yM,HR⟩:=hrel
     have Kp:acc.length≤30:=by have:=Fw.out; omega
     by_cases wQ:k < ps.length
     ·have yQ:=HT.out.cell k
      rw [fU ps rest k wQ] at yQ
      have yW:=jZ (kX wQ X.c l1 acc)
      have zM:=Kk.out _ (List.getElem_mem wQ)
      obtain ⟨ln,zz⟩ : ∃ ln:ByteArray,ln=⟨(ps[k]).toArray⟩:=⟨_,rfl⟩
      have GP:ln.size≤1048576:=by rw [zz]; show (ps[k]).toArray.size≤_; rw [List.size_toArray]; exact zM
      rw [← zz] at yQ yW
      clear zM
      have HS:=kL xf.out
      obtain ⟨Cf,Cg,Kq⟩:=HS
      have L3:=HL.out
      have hX:=HX.out
      have hgL:=L3.lt
      have hgT:=HT.out.lt
      have EXc:=jZ (fun W hW=>oz X l1 ln W hW Cf Cg Kq GP)
      have eT:=tK X l1 ln
      have eO:=qn X l1 ln
      have eL:=qo X l1 ln
      skip
      replace zz:=jZ zz
      have Cs:=jZ (nz ln xf.out)
      obtain ⟨rp,IF⟩ : ∃ rp,lp X.c l1 ln=rp:=⟨_,rfl⟩
      obtain ⟨y,hy⟩ : ∃ y,qt X.c l1 ln=y:=⟨_,rfl⟩
      obtain ⟨l2,y7⟩ : ∃ l2,oG X.c l1 ln=l2:=⟨_,rfl⟩
      rw [hy,y7] at Cs yW
      rw [IF] at yW eT
      rw [hy] at eO
      rw [y7] at eL
      have Ns:=jZ eT
      have Nt:=jZ eO
      have Nu:=jZ eL
      clear eT eO eL IF hy y7 HL HX xf yQ
      go_upto_region 9 with fail
      refine al (Sw 9 (fun W9=>Below wr.heap.size wr W9) (fun W9=>∃ TA tc OA oc,Below w.heap.size w W9∧ai W9 w.heap.size 42 [F TA y.t.length tc,F OA y.o.length oc,O U y.gt,O U y.sd,O U y.ms,wG l2.D,wG l2.P,O U l2.n]∧W9.ownsRow wr.heap.size 104 2 (F TA y.t.length tc) y.t.length (y.t.flatMap aq.enc)∧W9.ownsRow wr.heap.size 147 3 (F OA y.o.length oc) y.o.length (y.o.flatMap ae.enc)∧lY W9 (gp+1) A7 c7 acc∧ai W9 gp 9 (dP ps++rest))) (fun i w1 w2=>i ∉ [9]→Below w1.heap.size w1 w2) kZ kZ kZ (Sw.start jB.drew) ?_
      simp only [ax,Act.put,sA,gs0,gs1,Nat.zero_add,Nat.reduceAdd]
      refine aa _ (vb0C8 L3) ?_
      refine aa _ vb0 ?_
      refine aa _ vb0 ?_
      refine aa _ (vb2 1 2) ?_
      apply aa
      case h1 =>
       intro vs L9 w9 wK wI hB K9 wJ
       replace wI:=sb wI wK
       have d3:=fe hB 3
       simp only [d3] at wJ ⊢
       have q0:=(HT.out.below wI HT.out.lt).cell k
       rw [fU ps rest k wQ,← zz.out] at q0
       simp only [Act.put,sA,gs0,gs1] at wJ
       go_simp
       exact wJ _ _ rfl (sy wK wI) bR
      refine sm [9] (fun v w9=>∃ TA tc OA oc,v=.tuple #[.agg #[F TA y.t.length tc,F OA y.o.length oc,O U y.gt,O U y.sd,O U y.ms,wG l2.D,wG l2.P,O U l2.n],wG rp]∧w9.ownsRow wr.heap.size 104 2 (F TA y.t.length tc) y.t.length (y.t.flatMap aq.enc)∧w9.ownsRow wr.heap.size 147 3 (F OA y.o.length oc) y.o.length (y.o.flatMap ae.enc)) (fun vs L9 w9 wK wI hB K9 wJ=>?_) ?_
      next =>
       replace wI:=sb wI wK
       have d0:=fe hB 0
       have d4:=fe hB 4
       simp only [d0,d4] at wJ ⊢
       simp only [Act.put,sA,gs0,gs1] at wJ
       go_simp
       refine (EXc.out w9 (hX.then wI)).mono ?_
       rintro en w8 ⟨v,rfl,⟨TA,tc,OA,oc,rfl,h1,h2⟩,wL⟩
       simp only [Ns.out,Nt.out,Nu.out] at h1 h2 ⊢
       exact wJ _ _ _ rfl ⟨TA,tc,OA,oc,rfl,ah h1 wI.size,ah h2 wI.size⟩ (Sw.stay wK kZ dD (wI.trans (wL.mono wI.size))) (fun _=>wL)
      refine pm0 [] 5 (fun u v _=>v=u∧∃ a:Value,u=.tuple #[a,wG rp]) (fun vs L9 w9 wK wI hB K9 wJ=>?_) ?_
      next =>
       replace wI:=sb wI wK
       obtain ⟨TA,tc,OA,oc,e0,h1,h2⟩:=fs hB 5
       simp only [e0] at wJ ⊢
       go_simp
       exact wJ _ _ _ rfl ⟨rfl,_,rfl⟩ (sy wK wI) bR
      refine sm [9] (fun v w9=>∃ TA tc OA oc,v=.agg #[F TA y.t.length tc,F OA y.o.length oc,O U y.gt,O U y.sd,O U y.ms,wG l2.D,wG l2.P,O U l2.n]∧w9.ownsRow wr.heap.size 104 2 (F TA y.t.length tc) y.t.length (y.t.flatMap aq.enc)∧w9.ownsRow wr.heap.size 147 3 (F OA y.o.length oc) y.o.length (y.o.flatMap ae.enc)) (fun vs L9 w9 wK wI hB K9 wJ=>?_) ?_
      next =>
       replace wI:=sb wI wK
       simp only [Act.put,sA,gs0,gs1] at wJ
       obtain ⟨TA,tc,OA,oc,e0,h1,h2⟩:=fs hB 5
       simp only [e0] at wJ ⊢
       obtain ⟨e6,_⟩:=fs hB 6
       simp only [e6,e0] at wJ ⊢
       go_simp
       exact wJ _ _ _ rfl ⟨TA,tc,OA,oc,rfl,h1,h2⟩ (sy wK wI) bR
      refine aa (wG rp) (fun vs L9 w9 wK wI hB K9 wJ=>?_) ?_
      next =>
       simp only [Act.put,sA,gs0,gs1] at wJ
       obtain ⟨e6,a,e5⟩:=fs hB 6
       simp only [e6,e5] at wJ ⊢
       go_simp
       exact wJ _ _ rfl (Sw.both dD (fun h=>h) (fun h=>h) wI) bR
      refine aa (undef) (fun vs L9 w9 wK wI hB K9 wJ=>?_) ?_
      next =>
       replace wI:=wI.here wK
       obtain ⟨TA,tc,OA,oc,e0,h1,h2⟩:=fs hB 7
       simp only [e0] at wJ ⊢
       have L4:=L3.below wI L3.lt
       obtain ⟨z0,z1,z2,z3,z4,z5,z6,z7⟩:=cells8 L4
       obtain ⟨f0,f1,f2,f3,f4,f5,f6,f7⟩:=frz8 L4
       have wV:=yM.trans (wI.mono yM.size)
       obtain ⟨W5,zU,N5,b5,gr5⟩:=vB (g:=w.heap.size) L4 wV nR (F TA y.t.length tc) (F OA y.o.length oc) (O U y.gt) (O U y.sd) (O U y.ms) (wG l2.D) (wG l2.P) (O U l2.n)
       have Fx:=jZ ((HI.out.below wI).kept L4 tN gr5)
       have xN:=jZ ((HT.out.below wI HT.out.lt).kept gr5 (by intro e; injection e with e; omega))
       have xW:=jZ (ak h1 L4 fj gr5)
       have DH:=jZ (ak h2 L4 fk gr5)
       have Nv:=jZ N5
       have Kx:=jZ b5
       clear N5 b5 gr5 h1 h2 L4 wV
       go_simp
       rw [zU.out]
       exact wJ _ _ rfl (Sw.turn ⟨TA,tc,OA,oc,Kx.out,Nv.out,xW.out,DH.out,Fx.out,xN.out⟩) nq
      refine aa _ (va1 8) ?_
      refine ar fun vs L9 w9 wS wI hB=>?_
      replace wI:=wI.done wS dD
      obtain ⟨TA,tc,OA,oc,b5,N5,xW,DH,Fx,xN⟩:=wI
      have d10:=ag.eq (hB 10 _ rfl rfl dD)
      simp only [d10]
      clear hB d10 HI hX L3 hgT hgL
      obtain ⟨w5,h59⟩ : ∃ z,z=w9:=⟨_,rfl⟩
      subst h59
      have Hl:=jZ Fx
      have Ks:gp+1≤w5.heap.size:=xN.lt
      have Fy:acc.length < 1000000:=oM
      go_wp2_with (at_builtin; refine lZ (w0:=w5) rfl _ _ rfl (gp+1) A7 c7 acc.length acc rfl rfl Hl rp 1 _ rfl (by first | rfl | exact Array.size_push _) Fy Ks rfl rfl rfl rfl ?_; intro A8 c8 w6 row AM gr6 BA xn)
      have b6:=b5.trans (xn.mono (Nat.le_of_lt (Nat.lt_succ_of_lt IE)))
      have Hm:=BA.own gr6 xW dD
      have Hn:=BA.own gr6 DH dD
      have h5:Hid (aQ w6 w6.heap.size (y.at TA tc OA oc)):=⟨aw Hm,aw Hn⟩
      have h6:=jZ (N5.kept gr6 (BA.far _ _ _ tN N5))
      have h7:=jZ (xN.kept gr6 (fun e=>by have:=(BA.lt _ e.symm).1; omega))
      have h8:Hid (lY w6 (gp+1) A8 c8 (acc++[rp])):=.inl AM.out
      have Cd:(acc++[rp]).length=acc.length+1:=by rw [List.length_append]; rfl
      clear gr6 xn Fx AM xN xW DH N5 b5 Hl Hm Hn BA
      go_wp2
      go_roundw
      case rel=>exact ⟨k+1,y.at TA tc OA oc,l2,acc++[rp],A8,c8,oM,by go_num,by rw [Cd],by rw [Hid,Cd,Fw.out],Cs,h5,h6,h8,h7,b6,by rw [Hid,← HR.out,yW.out]; rfl⟩
      case measure=>simp [intOf]; omega
     ·have zZ:ps.drop k = []:=List.drop_eq_nil_of_le oM
      have HR':=HR.out
      rw [zZ,ck] at HR'
      have Ku:Hid (mR=acc):=by rw [Hid,Kn.out,← HR']
      have wT:∃ t,acc=t:=⟨_,rfl⟩
      have Kv:Hid (ku wr w.heap.size A7 c7 acc):=by
       rcases HI.out with h | ⟨h1,_⟩
       ·exact ah h oM
       ·have:=Fw.out; rw [h1] at this; simp at this; omega
      clear zZ HR' HR wT
      go_wp2
      refine bodyPost_ret (v:=.tuple #[F A7 acc.length c7,.bool true]) (by simp [results,Tryz.results20,go_sem, *]) rfl (eQ.mk Ku.out DX.out rfl Kv.out yM)
   ·have HN:=SN.out (.inr (.inl oM))
    have hs4' : (4000:Int) < (s.size:Int):=oM
    clear SN SY Cr
    go_wp2
    refine bodyPost_ret (v:=.tuple #[F (some ⟨w.heap.size+1,0,none⟩) 0 0,.bool false]) (by simp [results,Tryz.results20,go_sem, *]) rfl (eQ.mk HN.2 HN.1 rfl Kw.out b2)
  ·have HN:=SN.out (.inr (.inr oM))
   have hl30' : (30:Int) < (ps.length:Int):=oM
   clear SN SY Cr
   by_cases DQ:(4000:Int) < (s.size:Int)
   all_goals
    go_wp2
    refine bodyPost_ret (v:=.tuple #[F (some ⟨w.heap.size+1,0,none⟩) 0 0,.bool false]) (by simp [results,Tryz.results20,go_sem, *]) rfl (eQ.mk HN.2 HN.1 rfl Kw.out b2)
end Go.Proofs.YtoeoimhemojdeaaGreatDoor
namespace Go.Proofs.YtoeoimhemojdeaaGreatDoor
open Go.ChangeShapes Go.WideShapes Go.ChangeAt Go.RowKit Go.Deep
section
variable {H:Type} {enc:TypeId × Value→H} {P:Program} {w:World} {base:Nat} {spare:Nat→Bool} {held:Bool}
theorem vT {t:TypeId} {n:Nat} {v:Value} {x:DataW H × List MemPlace} (ht:P.underlying t=some (.int .u8)) (h:DataW.trod enc P w base spare held n t [v]=some x) :
  ∃ b:UInt8,v=.int .u8 (b.toNat:Int):=by
 obtain ⟨m,e,_,hw⟩:=DataW.trod_int ht h
 have hb:0≤m∧m≤255:=by
  simp [Lit.wf,IntKind.min,IntKind.max,IntKind.signed,IntKind.bits] at hw
  omega
 refine ⟨UInt8.ofNat m.toNat, ?_⟩
 have e' : v=.int .u8 m:=by simpa using e
 rw [e']
 congr 1
 have:(UInt8.ofNat m.toNat).toNat=m.toNat:=by
  rw [UInt8.toNat_ofNat']; omega
 rw [this]; omega
theorem sY {t e:TypeId} {b0:Nat} {r:Reach} {v:Value} {d:DataW H} {p:List MemPlace} (ht:P.underlying t=some (.slice e)) (he:P.underlying e=some (.int .u8)) (hC:P.cellsOf e=1)
  (hv:Value.okWide P w r b0 t v) (h:DataW.Trod enc P w base spare held t v d p):∃ A c,∃ l:List UInt8,v=.slice A l.length c∧gQ w w.heap.size A l:=by
 obtain ⟨A,len,cap,rfl⟩:=okWide_slice ht hv
 obtain ⟨n,hn⟩:=h
 obtain ⟨A',len',cap',e',css,hl,hS,yi⟩:=ri ht hC oM hn
 injection e' with e1 e2 e3
 subst e1; subst e2; subst e3
 obtain ⟨l,FP,LO⟩:=mt (fun b:UInt8=>[Value.int .u8 (b.toNat:Int)]) css (fun cs hc=>by
  obtain ⟨wR,m,y,hy⟩:=yi cs hc
  obtain ⟨u,rfl⟩ : ∃ u,cs = [u]:=by match cs,wR with | [u],_=>exact ⟨u,rfl⟩
  obtain ⟨b,rfl⟩:=vT he hy
  exact ⟨b,rfl⟩)
 refine ⟨A,cap,l,by rw [LO,hl], ?_⟩
 rw [FP] at hS
 have key:∀ l:List UInt8,uG l=l.flatMap (fun b:UInt8=>[Value.int .u8 (b.toNat:Int)]):=fun l=>by
  induction l with
  | nil=>rfl
  | cons a l ih=>rw [List.flatMap_cons,← ih]; rfl
 unfold gQ
 rw [key,LO,hl]
 exact hS
end
end Go.Proofs.YtoeoimhemojdeaaGreatDoor
