/- Lemmas. -/
import Derived.Test.YtoeoimhemojdeaaGreatDoorFr17

set_option linter.unusedVariables false
set_option linter.unusedSimpArgs false
set_option maxHeartbeats 8000000
open Go.Value renaming int → O, slice → F, string → xh
open Go.IntKind renaming i64 → U
open Go.Proofs.Tryz renaming prog → xi

namespace Go.Proofs.YtoeoimhemojdeaaGreatDoor
open Go.RowKit
theorem tE {W W' W'' : World} {b:Nat} (G:W.grownBy W' (some b)) (hg:W'.grownBy W'' (some b)):W.grownBy W'' (some b):=aA G hg
theorem tF {w W W' : World} {b:Nat} (h:Below w.heap.size w W) (hg:W.grownBy W' (some b)) (hb:w.heap.size≤b):Below w.heap.size w W' :=
 ⟨hg.os.trans h.os,hg.tape.trans h.tape,hg.output.trans h.output,jT h.size hg.size,fun k hk=>(hg.block k (jL hk h.size) iE).trans (h.block k hk)⟩
theorem rZ (A:Option Addr) (n c:Nat) (w:World):Calls xi 25 #[F A n c] w fun e w'=>e=.returned (.bool (decide (65536 < n)))∧w=w':=by
 by_cases h:65536 < n
 ·have h1:(65536:Int) < n:=oM
  rw [jD h]
  go_enter Tryz.func25,Tryz.ntmps25
  go_wp2
  go_ret
  exact ⟨by simp [h1],rfl⟩
 ·have h1 : ¬ (65536:Int) < n:=oM
  rw [jE h]
  go_enter Tryz.func25,Tryz.ntmps25
  go_wp2
  go_ret
  exact ⟨by simp [h1],rfl⟩
set_option maxRecDepth 100000 in
theorem nE (A:Option Addr) (cap:Nat) (bs:List UInt8) (w:World) (hr:gB w w.heap.size A bs) (ht:LW w) :
  Calls xi 8 #[F A bs.length cap] w fun e w'=>e=.returned (.bool true)∧Below w.heap.size w w':=by
 by_cases Ae:65536 < bs.length
 ·have hb' : decide (65536 < bs.length)=true:=jD Ae
  go_enter Tryz.func8,Tryz.ntmps8
  go_wp2_with (go_at_call 25; refine (rZ _ _ _ _).mono ?_; rintro e w' ⟨rfl,rfl⟩)
  go_ret
  exact ⟨rfl,Below.refl _ _⟩
 ·have hb' : decide (65536 < bs.length)=false:=jE Ae
  go_enter Tryz.func8,Tryz.ntmps8
  go_wp2_with fail
  refine (rZ _ _ _ _).mono ?_
  rintro e w' ⟨rfl,rfl⟩
  go_wp2_with fail
  clear hb' Ae
  refine (o4 A cap bs w hr).mono ?_
  rintro e w1 ⟨n,l,rfl,⟨zJ,Cs⟩,⟨Cq,yZ,Hq⟩,xp⟩
  have xo:=(Below.refl w1.heap.size w1).alloc nR (.cells #[xh l.D,xh l.P,O U l.n] 27)
  have K4:=ai.new w1 27 #[xh l.D,xh l.P,O U l.n]
  have B2:=av xp xo
  clear xo xp
  have cI:=fun W hW=>jX n l W oM hW
  have cS:=fun W=>qC n l W oM
  unfold eQ at cI cS
  generalize mc n l=r0 at cI cS
  generalize ib n l=ok0 at cI cS
  have HI:=jZ cI
  have HS:=jZ cS
  clear cI cS
  have x1:((r0:Int) != (r0:Int))=false:=sP
  have x2:(ok0 != ok0)=false:=by cases ok0 <;> rfl
  go_upto_region 4 with fail
  generalize w1.alloc (.cells #[xh l.D,xh l.P,O U l.n] 27)=w2 at K4 B2 ⊢
  generalize w1.heap.size=g4 at K4 ⊢
  obtain ⟨k0,k1,k2⟩:=cells3 K4
  go_wp2_with fail
  refine (HI.out w2 (ht.then B2)).mono ?_
  rintro e w3 ⟨rfl,xB⟩
  replace B2:=av B2 xB
  replace K4:=K4.below xB K4.lt
  clear xB HI k0 k1 k2
  obtain ⟨k0,k1,k2⟩:=cells3 K4
  go_wp2_with fail
  refine (HS.out w3).mono ?_
  rintro e w4 ⟨rfl,xy⟩
  replace B2:=av B2 xy
  clear xy HS K4 k0 k1 k2 Cq yZ Hq
  go_wp2_with fail
  clear x1 x2
  refine (oQ A cap bs w4 (bi.then hr B2)).mono ?_
  rintro e w5 ⟨y0,l0,v,t,rfl,⟨TA,tc,OA,oc,rfl,_,_⟩,_,DT,hb5⟩
  have B5:=av (av B2 hb5) ((Below.refl w5.heap.size w5).alloc nR (.cells #[F TA y0.t.length tc,F OA y0.o.length oc,O U y0.gt,O U y0.sd,O U y0.ms,xh l0.D,xh l0.P,O U l0.n] 42))
  clear B2 hb5 hr
  go_upto_region 9 with fail
  generalize w5.alloc (.cells #[F TA y0.t.length tc,F OA y0.o.length oc,O U y0.gt,O U y0.sd,O U y0.ms,xh l0.D,xh l0.P,O U l0.n] 42)=w6 at B5 ⊢
  generalize w5.heap.size=g9
  have zb:bX n 1 9999=true→ji n (eU n) Lg.zero:=fun h=>rW h
  have cI:=fun W=>nn n W
  have cS:=fun W=>kz n W
  unfold oS at cI cS
  have IK:Hid (bX n 1 9999=true→bX n 1 9999=true):=fun h=>h
  obtain ⟨z,hz⟩ : ∃ z,eU n=z:=⟨_,rfl⟩
  obtain ⟨bo,FY⟩ : ∃ bo,bX n 1 9999=bo:=⟨_,rfl⟩
  simp only [hz,FY] at cI cS zb
  have JR:=jZ FY
  have KX:=jZ zb
  have HI:=jZ cI
  have HS:=jZ cS
  clear hz FY cI cS zb IK
  go_wp2_with fail
  refine (HI.out w6).mono ?_
  rintro e w7 ⟨TA11,tc11,OA11,oc11,rfl,hT,hO,yX⟩
  have xo:=(Below.refl w7.heap.size w7).alloc nR (.cells #[F TA11 z.t.length tc11,F OA11 z.o.length oc11,O U z.gt,O U z.sd,O U z.ms,xh ⟨#[]⟩,xh ⟨#[]⟩,O U 0] 42)
  have K11:=ai.new w7 42 #[F TA11 z.t.length tc11,F OA11 z.o.length oc11,O U z.gt,O U z.sd,O U z.ms,xh ⟨#[]⟩,xh ⟨#[]⟩,O U 0]
  replace hT:=ag (ac hT xo) B5.size
  replace hO:=ag (ac hO xo) B5.size
  have hg11:w.heap.size≤w7.heap.size:=jT B5.size yX.size
  have B8:=av (av B5 yX) xo
  clear xo yX B5 HI
  go_upto_region 10 with fail
  generalize w7.alloc (.cells #[F TA11 z.t.length tc11,F OA11 z.o.length oc11,O U z.gt,O U z.sd,O U z.ms,xh ⟨#[]⟩,xh ⟨#[]⟩,O U 0] 42)=w8 at K11 hT hO B8 ⊢
  generalize w7.heap.size=g11 at K11 hg11 ⊢
  go_wp2_with fail
  refine (HS.out w8).mono ?_
  rintro e w9 ⟨TA13,tc13,OA13,oc13,rfl,Iv,Iw,hb9⟩
  have xo:=(Below.refl w9.heap.size w9).alloc nR (.cells #[F TA13 z.t.length tc13,F OA13 z.o.length oc13,O U z.gt,O U z.sd,O U z.ms,xh ⟨#[]⟩,xh ⟨#[]⟩,O U 0] 42)
  have K13:=ai.new w9 42 #[F TA13 z.t.length tc13,F OA13 z.o.length oc13,O U z.gt,O U z.sd,O U z.ms,xh ⟨#[]⟩,xh ⟨#[]⟩,O U 0]
  have hx:=av hb9 xo
  replace hT:=ac hT hx
  replace hO:=ac hO hx
  have R13:aQ (w9.alloc (.cells #[F TA13 z.t.length tc13,F OA13 z.o.length oc13,O U z.gt,O U z.sd,O U z.ms,xh ⟨#[]⟩,xh ⟨#[]⟩,O U 0] 42)) (w9.alloc (.cells #[F TA13 z.t.length tc13,F OA13 z.o.length oc13,O U z.gt,O U z.sd,O U z.ms,xh ⟨#[]⟩,xh ⟨#[]⟩,O U 0] 42)).heap.size (z.at TA13 tc13 OA13 oc13):=aQ.then ⟨an Iv,an Iw⟩ xo
  replace K11:=K11.below hx K11.lt
  replace B8:=av B8 hx
  clear xo hb9 hx Iv Iw HS
  go_upto_region 11 with fail
  generalize w9.alloc (.cells #[F TA13 z.t.length tc13,F OA13 z.o.length oc13,O U z.gt,O U z.sd,O U z.ms,xh ⟨#[]⟩,xh ⟨#[]⟩,O U 0] 42)=w10 at K11 K13 hT hO R13 B8 ⊢
  generalize w9.heap.size=g13 at K13 ⊢
  have HV:=jZ (vZ (z.at TA11 tc11 OA11 oc11) (z.at TA13 tc13 OA13 oc13) ⟨⟨#[]⟩,⟨#[]⟩,0⟩ w10 ⟨an hT,an hO⟩ R13 rfl)
  obtain ⟨c0,c1,c2,c3,c4,c5,c6,c7⟩:=cells8 K11
  obtain ⟨d0,d1,d2,d3,d4,d5,d6,d7⟩:=cells8 K13
  clear R13 K13
  go_wp2_with fail
  refine HV.out.mono ?_
  rintro e w11 ⟨rfl,DQ⟩
  replace hT:=ac hT DQ
  replace hO:=ac hO DQ
  replace K11:=K11.below DQ K11.lt
  replace B8:=av B8 DQ
  have x3:(bo != bo)=false:=by cases bo <;> rfl
  clear DQ HV c0 c1 c2 c3 c4 c5 c6 c7 d0 d1 d2 d3 d4 d5 d6 d7
  have AB:g11 < w11.heap.size:=K11.lt
  have Ea:Hid (cn w11 w.heap.size g11 z Lg.zero):=⟨TA11,tc11,OA11,oc11,K11,hT,hO⟩
  clear hT hO K11
  cases bo
  ·clear Ea KX
   go_wp2
   go_ret
   exact ⟨rfl,B8⟩
  ·have DV:=jZ (KX.out rfl)
   clear KX
   go_wp2_with fail
   refine (nD t w11 DT).mono ?_
   rintro e w12 ⟨g15,c15,rest,rfl,K15,hg15,zk⟩
   have Ea:=jZ (Ea.out.below zk)
   have xw:g15 ≠ g11:=oM
   have Ix:=jZ (av B8 zk)
   obtain ⟨ps,Bg⟩ : ∃ ps,aH 10 (bl t)=ps:=⟨_,rfl⟩
   have Cx:Hid (∀ s ∈ ps,s.length≤4000):=by rw [← Bg]; exact kx (by rw [ao]; exact DT)
   have OH:ps.length≤4001:=by rw [← Bg]; exact (ky (by rw [ao]; exact DT)).2
   rw [Bg] at K15 ⊢
   have Iy:=jZ K15
   clear Bg K15 B8 zk hg15 AB DT
   go_wp2_with fail
   go_loopw [17] (fun i wr=>∃ (k:Nat) (y:Oc) (q:Lg),k≤ps.length∧i=O U k∧Hid (ji n y q)∧Hid (Below w.heap.size w wr)∧Hid (cn wr w.heap.size g11 y q)∧Hid (ai wr g15 9 (ex ps++rest))) (fun i _=>ps.length - (intOf i).toNat)
   case atStart=>exact ⟨0,z,Lg.zero,Nat.zero_le _,rfl,DV,Ix,Ea,Iy⟩
   case round =>
    clear DV Ix Ea Iy
    obtain ⟨k,y,q,hk,rfl,DV,HB,Ea,Iz⟩:=hrel
    have EH:=HB.out.size
    have TW:=ht.then HB.out
    have xY:=mM DV.out.ok
    by_cases xu:k < ps.length
    ·obtain ⟨TA,tc,OA,oc,K11,hT,hO⟩:=Ea.out
     obtain ⟨s,hs⟩ : ∃ s:ByteArray,⟨ps[k].toArray⟩=s:=⟨_,rfl⟩
     have JX:s.size≤1048576:=by
      rw [← hs,← ao,bO]
      have:=Cx.out ps[k] (List.getElem_mem xu); omega
     have HK:Hid (∀ w9,Below wr.heap.size wr w9→w9.cell? ⟨g15,k,none⟩=some (xh s)):=fun w9 hb=>by
      rw [(Iz.out.below hb Iz.out.lt).cell k,iu ps rest k xu,hs]
     have cE:∀ W,aQ W W.heap.size (y.at TA tc OA oc)→LW W→Calls xi 16 #[aK (y.at TA tc OA oc) q,xh s] W fun e w'=>∃ v,e=.returned (.tuple #[v,xh (mf y q s)])∧gX w' W.heap.size (pL y q s) (nA y q s) v∧Below W.heap.size W w' :=
      fun W h hL=>oP (y.at TA tc OA oc) q s W h xY.1 xY.2.1 xY.2.2 JX hL
     have KY:=DV.out.step s
     obtain ⟨ys,EM⟩ : ∃ ys,pL y q s=ys:=⟨_,rfl⟩
     obtain ⟨qs,DW⟩ : ∃ qs,nA y q s=qs:=⟨_,rfl⟩
     obtain ⟨Ts,Ja⟩ : ∃ Ts,mf y q s=Ts:=⟨_,rfl⟩
     simp only [EM,DW,Ja] at cE
     rw [EM,DW] at KY
     have Mc:=jZ cE
     have Ar:=jZ KY
     clear cE KY EM DW Ja hs JX xY Cx
     go_upto_region 19 with fail
     refine al (Sw 9 (fun W9=>Below wr.heap.size wr W9) (fun W9=>wr.grownBy W9 (some g11))) (fun i w1 w2=>i ∉ [9]→Below w1.heap.size w1 w2) kZ kZ kZ (Sw.start jB.drew) ?_
     simp only [ax,Act.put,sA,gs0,gs1,Nat.zero_add,Nat.reduceAdd]
     refine aa _ (vb0C8 K11) ?_
     refine aa _ vb0 ?_
     refine aa _ vb0 ?_
     refine aa _ (vb2 1 2) ?_
     refine aa _ (vb1w 3 HK) ?_
     refine sm [9] (fun v w9=>∃ u,v=.tuple #[u,xh Ts]∧gX w9 w.heap.size ys qs u) (fun vs L9 w9 xl xj hB K9 xk=>?_) ?_
     next =>
      replace xj:=sb xj xl
      have d0:=fe hB 0
      have d4:=fe hB 4
      simp only [d0,d4] at xk ⊢
      simp only [Act.put,sA,gs0,gs1] at xk
      go_simp
      refine (Mc.out w9 ⟨an (ac hT xj),an (ac hO xj)⟩ (TW.then xj)).mono ?_
      rintro en w8 ⟨v8,rfl,Bs,xm⟩
      exact xk _ _ _ rfl ⟨_,rfl,Bs.lower (jT EH xj.size)⟩ (Sw.stay xl kZ dD (xj.trans (xm.mono xj.size))) (fun _=>xm)
     refine pm0 [] 5 (fun u v _=>v=u∧∃ q,u=.tuple #[q,xh Ts]) (fun vs L9 w9 xl xj hB K9 xk=>?_) ?_
     next =>
      replace xj:=sb xj xl
      obtain ⟨u5,e5,_⟩:=fs hB 5
      simp only [e5] at xk ⊢
      go_simp
      exact xk _ _ _ rfl ⟨rfl,u5,rfl⟩ (sy xl xj) bR
     refine sm [9] (fun v w9=>gX w9 w.heap.size ys qs v) (fun vs L9 w9 xl xj hB K9 xk=>?_) ?_
     next =>
      replace xj:=sb xj xl
      simp only [Act.put,sA,gs0,gs1] at xk
      obtain ⟨q5,_⟩:=fs hB 6
      obtain ⟨u4,e4,h4⟩:=fs hB 5
      simp only [q5,e4] at xk ⊢
      go_simp
      exact xk _ _ _ rfl h4 (sy xl xj) bR
     refine aa (xh Ts) (fun vs L9 w9 xl xj hB K9 xk=>?_) ?_
     next =>
      have zv:=jZ xj
      clear xj
      obtain ⟨q5,u4,e4⟩:=fs hB 6
      simp only [q5,e4] at xk ⊢
      go_simp
      exact xk _ _ rfl (Sw.both dD (fun h=>h) (fun h=>h) zv.out) bR
     refine sm [] (fun _ w9=>cn w9 w.heap.size g11 ys qs) (fun vs L9 w9 xl xj hB K9 xk=>?_) ?_
     next =>
      replace xj:=xj.here xl
      simp only [Act.put,sA,gs0,gs1] at xk
      obtain ⟨TB,tb,OB,ob,e7,h1,h2⟩:=fs hB 7
      simp only [e7] at xk ⊢
      have xS:=K11.below xj K11.lt
      obtain ⟨z0,z1,z2,z3,z4,z5,z6,z7⟩:=cells8 xS
      obtain ⟨f0,f1,f2,f3,f4,f5,f6,f7⟩:=frz8 xS
      have Fo:=jZ (cn.put (l:=qs) xS h1 h2)
      have NQ:=jZ (tE (bJ xj (some g11)) (gw8 w9 g11 (F TB ys.t.length tb) (F OB ys.o.length ob) (O U ys.gt) (O U ys.sd) (O U ys.ms) (xh qs.D) (xh qs.P) (O U qs.n)))
      clear h1 h2 xS
      go_simp
      exact xk _ undef _ rfl Fo.out (Sw.turn NQ.out) nq
     refine au fun vs Lq W5 xv yu hB=>?_
     replace yu:=yu.done xv dD
     have Jk:=hB 9 _ rfl rfl dD
     clear hB xv
     have KW:=jZ (tF HB.out yu hg11)
     have CN:=jZ (Iz.out.kept yu (by intro e; injection e with e; exact xw e))
     have NR:=jZ Jk
     clear yu Jk K11 hT hO HK Mc DV HB Ea Iz TW
     go_wp2
     go_roundw
     case rel=>exact ⟨k+1,ys,qs,oM,by go_num,Ar,KW,NR,CN⟩
     case measure=>simp [intOf]; omega
    ·have NS : ¬ (k:Int) < (ps.length:Int):=oM
     obtain ⟨h1,h2⟩:=DV.out.all JR.out
     obtain ⟨kk,Fd⟩ : ∃ kk:Nat,q.P.size - q.P.size % 7=kk:=⟨_,rfl⟩
     have Lv:IntKind.i64.wrap ((q.P.size:Int) - (q.P.size:Int) % 7)=(kk:Int):=by rw [IntWalk.i64_in _ (by have:=xY.2.2; omega)]; omega
     have hpart:=DV.out.part (k:=(kk:Int)) JR.out ⟨oM,oM⟩
     have cR:=fun W hW=>jX n q W xY.2.2 hW
     unfold eQ at cR
     rw [h1,h2] at cR
     have HR:=jZ cR
     have Es:=jZ hpart
     have EN:=jZ xY.2.2
     obtain ⟨TA,tc,OA,oc,K11,_,_⟩:=Ea.out
     clear h1 h2 cR hpart xY Ea Iz DV hk Fd Cx
     obtain ⟨c0,c1,c2,c3,c4,c5,c6,c7⟩:=cells8 K11
     go_wp2_with fail
     refine (HR.out wr TW).mono ?_
     rintro e w13 ⟨rfl,yq⟩
     have B13:=av HB.out yq
     replace K11:=K11.below yq K11.lt
     have T13:=TW.then yq
     clear yq TW HB HR c0 c1 c2 c3 c4 c5 c6 c7
     obtain ⟨c0,c1,c2,c3,c4,c5,c6,c7⟩:=cells8 K11
     go_wp2_with fail
     obtain ⟨Cv,Ec,Jl,Jm⟩:=Es.out
     have cC:=ph q (kk:Int) false w13 EN.out T13.tab
     have yD:=rV q (kk:Int) false
     obtain ⟨S,hS⟩ : ∃ S,dk q (kk:Int) false=S:=⟨_,rfl⟩
     rw [Cv,hS] at cC
     rw [hS] at yD Ec Jl Jm
     refine cC.mono ?_
     rintro e w14 ⟨rfl,hb14⟩
     replace B13:=av B13 hb14
     replace K11:=K11.below hb14 K11.lt
     have T14:=T13.then hb14
     have cV:=nC S w14 (by have:=EN.out; omega) T14.tab
     have Hg:=(rU S).1
     obtain ⟨pt,EK⟩ : ∃ pt,eI S=pt:=⟨_,rfl⟩
     rw [Ec,EK] at cV
     rw [EK] at Jl Jm Hg
     generalize fQ S=rl at cV
     have Md:=jZ Jl
     have Me:=jZ Jm
     have Mf:Hid (pt.D.size+pt.P.size≤2000000):=by have:=EN.out; exact jT Hg oM
     clear hb14 T13 hS EK Cv Ec Jl Jm Hg yD Es EN cC Lv c0 c1 c2 c3 c4 c5 c6 c7
     go_wp2_with fail
     refine cV.mono ?_
     rintro e w15 ⟨rfl,hb15⟩
     have xo:=(Below.refl w15.heap.size w15).alloc nR (.cells #[xh pt.D,xh pt.P,O U pt.n] 27)
     have K22:=ai.new w15 27 #[xh pt.D,xh pt.P,O U pt.n]
     have hx:=av hb15 xo
     replace B13:=av B13 hx
     replace K11:=K11.below hx K11.lt
     have T16:=T14.then hx
     clear hb15 xo hx T14 cV
     go_upto_region 23 with fail
     generalize w15.alloc (.cells #[xh pt.D,xh pt.P,O U pt.n] 27)=w16 at K11 K22 B13 T16 ⊢
     generalize w15.heap.size=g22 at K22 ⊢
     have cR:=jX n pt w16 Mf.out T16
     unfold eQ at cR
     rw [Md.out,Me.out] at cR
     obtain ⟨k0,k1,k2⟩:=cells3 K22
     go_wp2_with fail
     refine cR.mono ?_
     rintro e w17 ⟨rfl,hb17⟩
     replace B13:=av B13 hb17
     replace K11:=K11.below hb17 K11.lt
     replace K22:=K22.below hb17 K22.lt
     clear hb17 cR T16 Md Me Mf k0 k1 k2
     have k2:=K22.cell 2
     have c7:=K11.cell 7
     simp only [gz0,gz1] at k2 c7
     have x4:(q.n == q.n)=true:=sP
     have x5:(pt.n == pt.n)=true:=sP
     clear K11 K22
     go_wp2
     go_ret
     exact ⟨rfl,B13⟩
end Go.Proofs.YtoeoimhemojdeaaGreatDoor
namespace Go.Proofs.YtoeoimhemojdeaaGreatDoor
open Go.ChangeShapes Go.WideShapes Go.ChangeAt Go.RowKit Go.Deep
section
variable {H:Type} {enc:TypeId × Value→H} {P:Program} {w:World} {base:Nat} {spare:Nat→Bool} {held:Bool}
theorem wB {t:TypeId} {n:Nat} {v:Value} {x:DataW H × List MemPlace} (ht:P.underlying t=some (.int .u8)) (h:DataW.trod enc P w base spare held n t [v]=some x) :
  ∃ b:UInt8,v=.int .u8 (b.toNat:Int):=by
 obtain ⟨m,e,_,hw⟩:=DataW.trod_int ht h
 have hb:0≤m∧m≤255:=by
  simp [Lit.wf,IntKind.min,IntKind.max,IntKind.signed,IntKind.bits] at hw
  omega
 refine ⟨UInt8.ofNat m.toNat, ?_⟩
 have e' : v=.int .u8 m:=by simpa using e
 rw [e']
 congr 1
 have:(UInt8.ofNat m.toNat).toNat=m.toNat:=by
  rw [UInt8.toNat_ofNat']; omega
 rw [this]; omega
theorem tG {t e:TypeId} {b0:Nat} {r:Reach} {v:Value} {d:DataW H} {p:List MemPlace} (ht:P.underlying t=some (.slice e)) (he:P.underlying e=some (.int .u8)) (hC:P.cellsOf e=1)
  (hv:Value.okWide P w r b0 t v) (h:DataW.Trod enc P w base spare held t v d p):∃ A c,∃ l:List UInt8,v=.slice A l.length c∧gB w w.heap.size A l:=by
 obtain ⟨A,len,cap,rfl⟩:=okWide_slice ht hv
 obtain ⟨n,hn⟩:=h
 obtain ⟨A',len',cap',e',css,hl,hS,yD⟩:=rA ht hC oM hn
 injection e' with e1 e2 e3
 subst e1; subst e2; subst e3
 obtain ⟨l,Gm,Mg⟩:=mz (fun b:UInt8=>[Value.int .u8 (b.toNat:Int)]) css (fun cs hc=>by
  obtain ⟨xt,m,y,hy⟩:=yD cs hc
  obtain ⟨u,rfl⟩ : ∃ u,cs = [u]:=by match cs,xt with | [u],_=>exact ⟨u,rfl⟩
  obtain ⟨b,rfl⟩:=wB he hy
  exact ⟨b,rfl⟩)
 refine ⟨A,cap,l,by rw [Mg,hl], ?_⟩
 rw [Gm] at hS
 have key:∀ l:List UInt8,vd l=l.flatMap (fun b:UInt8=>[Value.int .u8 (b.toNat:Int)]):=fun l=>by
  induction l with
  | nil=>rfl
  | cons a l ih=>rw [List.flatMap_cons,← ih]; rfl
 unfold gB
 rw [key,Mg,hl]
 exact hS
end
end Go.Proofs.YtoeoimhemojdeaaGreatDoor
