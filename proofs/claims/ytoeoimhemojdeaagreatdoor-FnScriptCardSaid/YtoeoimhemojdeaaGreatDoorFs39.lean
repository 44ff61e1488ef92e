/- Lemmas. -/
import Derived.Test.YtoeoimhemojdeaaGreatDoorFs14

set_option linter.unusedVariables false
set_option linter.unusedSimpArgs false
set_option maxHeartbeats 8000000
open Go.Value renaming int → O, slice → F, string → wG
open Go.IntKind renaming i64 → U
open Go.Proofs.Tryz renaming prog → wH

namespace Go.Proofs.YtoeoimhemojdeaaGreatDoor
open Go.RowKit
set_option maxRecDepth 100000 in
theorem rA (x:aO) (g:Nat) (st pe va:Int) (w:World) (h:cw w w.heap.size g x) (G:bK x) (i:Nat) (hi:i < x.t.length) (hI:ay x.t st=i) (ya:pe=0) (zx:1≤va∧va≤9999) :
  Calls wH 186 #[.pointer (some ⟨g,0,none⟩),.agg #[O U 1,O U st,O U pe,O U va]] w (aF w (bj x.c ⟨1,st,pe,va⟩)):=by
 subst ya
 obtain ⟨tr,yj⟩ : ∃ tr,x.c.t[i]=tr:=⟨_,rfl⟩
 obtain ⟨r,hr⟩ : ∃ r:Oc,r=⟨x.t.set i ⟨tr.k,tr.c+va⟩,x.o,x.gt+va,x.sd,x.ms⟩:=⟨_,rfl⟩
 have HR:Hid (bj x.c ⟨1,st,0,va⟩=Oc.fin r):=by
  unfold Hid bj
  rw [if_pos rfl]
  rw [show aj x.c.t st (va)=x.t.set i ⟨tr.k,tr.c+va⟩ from by show aj x.t st _=_; rw [io hI hi,show x.t[i]=tr from yj]]
  rw [hr]
  rfl
 have Be:=G.at_bd st 0
 have yC:(0:Int)≤(i:Int):=oM
 have Oj : ¬ (i:Int) < 0:=oM
 have zF:=(aq.bounds (G.tall i hi)).2
 rw [show x.t[i]=tr from yj] at zF
 obtain ⟨An,za⟩:=zF
 have yb:=G.g
 obtain ⟨Ec,Ed⟩:=yb
 obtain ⟨Cp,Cq⟩:=zx
 have L1:=(ai.new w 112 #[O U 1,O U st,O U 0,O U va]).alloc (.cells #[F none 0 0,F none 0 0,O U 0,O U 0,O U 0] 40)
 have L2:=ai.new1 w (.cells #[O U 1,O U st,O U 0,O U va] 112) 40 #[F none 0 0,F none 0 0,O U 0,O U 0,O U 0]
 have b1:=bZ w (.cells #[O U 1,O U st,O U 0,O U va] 112)
 have b2:=b1.alloc b1.size (.cells #[F none 0 0,F none 0 0,O U 0,O U 0,O U 0] 40)
 have hA:=h.then b2 b2.size
 have tl:=G.tl
 have ol:=G.ol
 clear b1
 go_enter Tryz.func186,Tryz.ntmps186
 go_wp2_with fail
 generalize ((w.alloc (.cells #[O U 1,O U st,O U 0,O U va] 112)).alloc (.cells #[F none 0 0,F none 0 0,O U 0,O U 0,O U 0] 40))=W2 at L1 L2 b2 hA ⊢
 refine (cy x g W2 hA oM oM).mono ?_
 rintro e W3 ⟨TA,tc,OA,oc,rfl,hT,hO,k3⟩
 obtain ⟨gT,cT,_,BF,_,_,_⟩:=ch hT oM
 injection BF with e1 e2 e3
 subst e1; subst e3
 have wO:=(Below.refl W3.heap.size W3).alloc nR (.cells #[F (some ⟨gT,0,none⟩) x.t.length tc,F OA x.o.length oc,O U x.gt,O U x.sd,O U x.ms] 40)
 have xe:aE (W3.alloc (.cells #[F (some ⟨gT,0,none⟩) x.t.length tc,F OA x.o.length oc,O U x.gt,O U x.sd,O U x.ms] 40)) W2.heap.size W3.heap.size _ _ x.c:=⟨ai.new W3 40 #[F (some ⟨gT,0,none⟩) x.t.length tc,F OA x.o.length oc,O U x.gt,O U x.sd,O U x.ms],k3.size,ac hT wO,ac hO wO⟩
 have k4:=k3.trans (wO.mono k3.size)
 obtain ⟨s0,s1⟩:=cells2 (L1.below k4 L1.lt)
 have hgO:w.heap.size+1 < W3.heap.size:=jL L2.lt k3.size
 clear hT hO k3
 have Fh:=hA.then k4 k4.size
 go_wp2_with fail
 clear s0 s1 wO
 generalize W3.alloc (.cells #[F (some ⟨gT,0,none⟩) x.t.length tc,F OA x.o.length oc,O U x.gt,O U x.sd,O U x.ms] 40)=W4 at xe k4 Fh ⊢
 generalize W3.heap.size=gO at xe hgO ⊢
 refine (bp x g st W4 Fh).mono ?_
 rintro e W4b ⟨rfl,wV⟩
 rw [hI]
 have zp:=xe.then wV
 have k4b:=k4.trans (wV.mono k4.size)
 have yG:=L1.below k4b L1.lt
 have s1:=yG.cell 1
 simp only [gz0,gz1] at s1
 go_wp2_with fail
 refine (bp (x.c.at (some ⟨gT,0,none⟩) tc OA oc) gO st W4b (aE.at_ (y:=x.c) zp)).mono ?_
 rintro e W5 ⟨rfl,hb5⟩
 have xk:=zp.then hb5
 have k5:=k4b.trans (hb5.mono k4b.size)
 clear s1 yG zp wV k4b Fh
 rw [show ay (x.c.at (some ⟨gT,0,none⟩) tc OA oc).t st=ay x.t st from rfl,hI]
 have yo:=L1.below k5 L1.lt
 have zr:=hA.then k5 k5.size
 have CJ:∀ (fn:Fn) (first cap:Array Value) (w:World),(Instr.makeFunc fn first cap).run wH w=.ok (.func fn first cap) w:=fun _ _ _ _=>rfl
 go_wp2_with fail
 refine (dO (B:=0) yo zr G (Nat.zero_le _)).mono ?_
 rintro e W6 ⟨rfl,xn⟩
 have wW:=xk.then xn
 have k6:=k5.trans (xn.mono k5.size)
 have yZ:=L1.below k6 L1.lt
 obtain ⟨s0,s1,s2,s3⟩:=cells4 yZ
 clear yo zr xk xe hb5 xn k4
 generalize aP st 0 x.o=N at *
 obtain ⟨BH,BI⟩:=Be
 have c0:=wW.lies.cell 0
 simp only [List.getElem?_cons_zero] at c0
 obtain ⟨v,hv⟩ : ∃ v,(N == 0)=v:=⟨_,rfl⟩
 cases v
 all_goals
  go_wp2
  obtain ⟨ye,kt,ct,cf⟩:=aE.setT' (y:=x.c) (wW.then jB.drew) hi tr yj (tr.c+va)
  have kd:=k6.drew
  have yL:=L1.below kd L1.lt
  have u1:=yL.cell 1
  have u2:=yL.cell 2
  have u3:=yL.cell 3
  simp only [gz0,gz1] at u1 u2 u3
  go_still_tail 9,kZ
  change wpList _ _ _ _ _ W6.drew
  generalize W6.drew=Wd at ye kt ct cf kd yL u1 u2 u3 ⊢
  have k7:=kd.trans kt
  have hneT : ¬ gT=w.heap.size:=fun e=>by have:=(ye.t.lt gT rfl).1; have:=L1.lt; omega
  have hneT' : ¬ w.heap.size=gT:=fun e=>hneT e.symm
  have hneO : ¬ gO=w.heap.size:=oM
  have hneO' : ¬ w.heap.size=gO:=oM
  have hneG : ¬ gT=gO:=fun e=>ye.ne_t (by rw [← e]; rfl)
  have hneG' : ¬ gO=gT:=fun e=>hneG e.symm
  have d2:Wd.cell? ⟨gO,2,none⟩=some (O U x.gt):=by
   have:=ye.lies.cell 2
   rw [World.cell?_setCell_other _ _ _ _ sP] at this
   exact this
  have d2f:Wd.frozen? ⟨gO,2,none⟩=false:=by
   have:=ye.lies.frozen 2
   rwa [World.frozen?_setCell] at this
  have Fi:=(ye.setN (x.gt+va)).1
  have k8:=k7.trans (ye.belowN 2 (O U (x.gt+va)))
  go_wp2_with fail
  generalize (Wd.setCell ⟨gT,i * 2+1,none⟩ (O U (tr.c+va))).setCell ⟨gO,2,none⟩ (O U (x.gt+va))=W8 at Fi k8 ⊢
  replace xi:∃ vt vo,aE W8 W2.heap.size gO vt vo r:=⟨_,_,by rw [hr]; exact Fi⟩
  obtain ⟨vt,vo,xi⟩:=xi
  clear hr ye Fi wW c0 ct cf u1 u2 u3 s0 s1 s2 s3 yZ yL kt kd k7 k6 k5 d2 d2f
  obtain ⟨A1,a1,A2,a2,rfl,rfl⟩:=xi.form
  have cV:=bc (r.at A1 a1 A2 a2) gO W8 (aE.at_ (y:=r) xi)
  rw [Oc.good_at] at cV
  cases hg:r.good
  ·rw [hg] at cV
   have HN:Hid (bj x.c ⟨1,st,0,va⟩=none):=by unfold Hid; rw [HR.out,Oc.fin,hg]; rfl
   clear hg
   go_wp2_with fail
   refine cV.mono ?_
   rintro e W9 ⟨rfl,hb9⟩
   have k9:=k8.trans (hb9.mono k8.size)
   clear hb9 cV
   have wU:=L2.below k9 L2.lt
   have z0:=wU.cell 0
   have z1:=wU.cell 1
   have z2:=wU.cell 2
   have z3:=wU.cell 3
   have z4:=wU.cell 4
   obtain ⟨f0,f1,f2,f3,f4⟩:=frz5 wU
   simp only [gz0,gz1] at z0 z1 z2 z3 z4
   have wY:=ab (g:=w.heap.size+1) (i:=4) (u:=O U 0) (gw4 W9 (w.heap.size+1) (F none 0 0) (F none 0 0) (O U 0) (O U 0))
   have bw:=b2.trans (k9.mono b2.size)
   have bz:=bw.grown wY bw.size (by rintro _ ⟨⟩; omega)
   go_wp2
   rw [HN.out]
   refine bodyPost_ret (v:=.tuple #[.agg #[F none 0 0,F none 0 0,O U 0,O U 0,O U 0],.bool false]) (by simp [results,Tryz.results186,go_sem, *]) rfl (aF.no rfl bz)
  ·rw [hg] at cV
   have HN:Hid (bj x.c ⟨1,st,0,va⟩=some r):=by unfold Hid; rw [HR.out,Oc.fin,hg]; rfl
   clear hg
   go_wp2_with fail
   refine cV.mono ?_
   rintro e W9 ⟨rfl,hb9⟩
   have k9:=k8.trans (hb9.mono k8.size)
   have xM:=xi.then hb9
   clear hb9 cV xi
   obtain ⟨c0,c1,c2,c3,c4⟩:=cells5 xM.lies
   have wU:=L2.below k9 L2.lt
   have z0:=wU.cell 0
   have z1:=wU.cell 1
   have z2:=wU.cell 2
   have z3:=wU.cell 3
   have z4:=wU.cell 4
   obtain ⟨f0,f1,f2,f3,f4⟩:=frz5 wU
   simp only [gz0,gz1] at z0 z1 z2 z3 z4
   have wY:=ab (g:=w.heap.size+1) (i:=4) (u:=O U r.ms) (gw4 W9 (w.heap.size+1) (F A1 r.t.length a1) (F A2 r.o.length a2) (O U r.gt) (O U r.sd))
   have bw:=b2.trans (k9.mono b2.size)
   have bz:=bw.grown wY bw.size (by rintro _ ⟨⟩; omega)
   have r8:=ah (ak xM.t wU fz wY) b2.size
   have r9:=ah (ak xM.o wU fg wY) b2.size
   have R8:=jZ r8; clear r8
   have R9:=jZ r9; clear r9
   clear wY xM
   go_wp2
   rw [HN.out]
   refine bodyPost_ret (v:=.tuple #[.agg #[F A1 r.t.length a1,F A2 r.o.length a2,O U r.gt,O U r.sd,O U r.ms],.bool true]) (by simp [results,Tryz.results186,go_sem, *]) rfl ?_
   exact aF.yes rfl R8.out R9.out bz
set_option maxRecDepth 100000 in
theorem rB (x:aO) (g:Nat) (st pe va:Int) (w:World) (h:cw w w.heap.size g x) (G:bK x) (hI:ay x.t st < 0) (xl:1≤st∧st≤99) (ya:pe=0) (zx:1≤va∧va≤9999) :
  Calls wH 186 #[.pointer (some ⟨g,0,none⟩),.agg #[O U 1,O U st,O U pe,O U va]] w (aF w (bj x.c ⟨1,st,pe,va⟩)):=by
 subst ya
 obtain ⟨Ni,Nj⟩:=xl
 have Fj : ¬ 0≤ay x.t st:=oM
 have JX:=rQ Fj
 have xZ:=qw va Fj
 have zY:=ky x.t st
 have Iv:=qE x.t st
 obtain ⟨yE,hat⟩:=rZ x.t st
 have FP:(x.t.flatMap aq.enc).take (dI x.t st * 2)++aq.enc ⟨st,0⟩++(x.t.flatMap aq.enc).drop (dI x.t st * 2)=(ei x.t st).flatMap aq.enc:=(qB aq.enc 2 aq.enc_len x.t (dI x.t st) ⟨st,0⟩).symm
 have Ay:∀ i (h:i < x.t.length),i < dI x.t st→iF x.t[i].k st < 0:=fun i h hi=>tp.2 (th x.t st i h hi)
 have BK:∀ i (h:i < x.t.length),dI x.t st≤i→¬ iF x.t[i].k st < 0:=fun i h hi hc=>vG x.t st G.ascT i h hi (tp.1 hc)
 have BL:∀ h:dI x.t st < x.t.length,false=decide (iF x.t[dI x.t st].k st=0):=fun h=>by
  symm; rw [decide_eq_false_iff_not,tT]; exact mM Fj _ (List.getElem_mem _)
 have cB:=fun (A:Option Addr) (c:Nat) (W:World) (hW:fX W W.heap.size A x.t)=>rV (fun t=>iF t.k st) (O U st) 213 #[] Tryz.call213 A c x.t W (fun t p=>rY t st p.val) hW (by have:=G.tl; omega) (dI x.t st) zY Ay BK false BL (fun _=>rfl)
 obtain ⟨tr,Dp⟩ : ∃ tr:aq,tr=⟨st,0⟩:=⟨_,rfl⟩
 have An:0≤tr.c:=by rw [Dp]; exact Int.le_refl _
 have za:tr.c≤9999:=by rw [Dp]; show (0:Int)≤9999; omega
 have yF:(ei x.t st).getD (dI x.t st) default=tr:=by rw [List.getD_eq_getElem?_getD,List.getElem?_eq_getElem yE,hat,Dp]; rfl
 rw [yF] at xZ
 rw [← Dp] at hat
 clear yF Ay BK BL Dp
 generalize ei x.t st=T1 at JX xZ Iv yE hat FP
 generalize dI x.t st=i at JX xZ zY yE hat FP cB
 have hi:i < T1.length:=yE
 have yj:T1[i]=tr:=hat
 obtain ⟨r,hr⟩ : ∃ r:Oc,r=⟨T1.set i ⟨tr.k,tr.c+va⟩,x.o,x.gt+va,x.sd,x.ms⟩:=⟨_,rfl⟩
 have HR:Hid (bj x.c ⟨1,st,0,va⟩=Oc.fin r):=by
  unfold Hid bj
  rw [if_pos rfl]
  show Oc.fin ⟨aj x.t st va,x.o,x.gt+va,x.sd,x.ms⟩=_
  rw [xZ,hr]
 have Be:=G.at_bd st 0
 have yC:(0:Int)≤(i:Int):=oM
 have Nk:=jZ FP
 clear xZ FP hat yE
 have yb:=G.g
 obtain ⟨Ec,Ed⟩:=yb
 obtain ⟨Cp,Cq⟩:=zx
 have L1:=(ai.new w 112 #[O U 1,O U st,O U 0,O U va]).alloc (.cells #[F none 0 0,F none 0 0,O U 0,O U 0,O U 0] 40)
 have L2:=ai.new1 w (.cells #[O U 1,O U st,O U 0,O U va] 112) 40 #[F none 0 0,F none 0 0,O U 0,O U 0,O U 0]
 have b1:=bZ w (.cells #[O U 1,O U st,O U 0,O U va] 112)
 have b2:=b1.alloc b1.size (.cells #[F none 0 0,F none 0 0,O U 0,O U 0,O U 0] 40)
 have hA:=h.then b2 b2.size
 have tl:=G.tl
 have ol:=G.ol
 clear b1
 go_enter Tryz.func186,Tryz.ntmps186
 go_wp2_with fail
 generalize ((w.alloc (.cells #[O U 1,O U st,O U 0,O U va] 112)).alloc (.cells #[F none 0 0,F none 0 0,O U 0,O U 0,O U 0] 40))=W2 at L1 L2 b2 hA ⊢
 refine (cy x g W2 hA oM oM).mono ?_
 rintro e W3 ⟨TA,tc,OA,oc,rfl,hT,hO,k3⟩
 have wO:=(Below.refl W3.heap.size W3).alloc nR (.cells #[F TA x.t.length tc,F OA x.o.length oc,O U x.gt,O U x.sd,O U x.ms] 40)
 have xe:aE (W3.alloc (.cells #[F TA x.t.length tc,F OA x.o.length oc,O U x.gt,O U x.sd,O U x.ms] 40)) W2.heap.size W3.heap.size _ _ x.c:=⟨ai.new W3 40 #[F TA x.t.length tc,F OA x.o.length oc,O U x.gt,O U x.sd,O U x.ms],k3.size,ac hT wO,ac hO wO⟩
 have k4:=k3.trans (wO.mono k3.size)
 obtain ⟨s0,s1⟩:=cells2 (L1.below k4 L1.lt)
 have hgO:w.heap.size+1 < W3.heap.size:=jL L2.lt k3.size
 clear hT hO k3
 have Fh:=hA.then k4 k4.size
 go_wp2_with fail
 clear s0 s1 wO
 generalize W3.alloc (.cells #[F TA x.t.length tc,F OA x.o.length oc,O U x.gt,O U x.sd,O U x.ms] 40)=W4 at xe k4 Fh ⊢
 generalize W3.heap.size=gO at xe hgO ⊢
 refine (bp x g st W4 Fh).mono ?_
 rintro e W4b ⟨rfl,wV⟩
 generalize ay x.t st=I0 at hI ⊢
 have zp:=xe.then wV
 have k4b:=k4.trans (wV.mono k4.size)
 have yG:=L1.below k4b L1.lt
 have s1:=yG.cell 1
 simp only [gz0,gz1] at s1
 have q0:W4b.cell? ⟨gO,0,none⟩=some (F TA x.t.length tc):=zp.lies.cell 0
 go_wp2_with fail
 refine (cB TA tc W4b (aw zp.t)).mono ?_
 rintro e W5 ⟨rfl,hb5⟩
 have xk:=zp.then hb5
 have k5:=k4b.trans (hb5.mono k4b.size)
 have yo:=L1.below k5 L1.lt
 clear s1 q0
 have s1:=yo.cell 1
 simp only [gz0,gz1] at s1
 have q0:W5.cell? ⟨gO,0,none⟩=some (F TA x.t.length tc):=xk.lies.cell 0
 have al5:=(Below.refl W5.heap.size W5).alloc nR (.cells #[O U st,O U 0] 104)
 have yB:=xk.then al5
 have cI:=qA W2.heap.size (F TA x.t.length tc) x.t.length (x.t.flatMap aq.enc) (W5.alloc (.cells #[O U st,O U 0] 104)) yB.t oM i zY ⟨st,0⟩ W5.heap.size 1 (ai.new W5 104 #[O U st,O U 0]) (fun e=>by have:=(xk.t.lt _ e).2; omega) (jT k5.size al5.size) eJ
 rw [Nk.out,← Iv] at cI
 clear Iv
 go_wp2_with fail
 clear s1 q0
 generalize W5.alloc (.cells #[O U st,O U 0] 104)=W5a at al5 yB cI ⊢
 refine cI.mono ?_
 rintro e W5b ⟨v',rfl,AJ,yy⟩
 obtain ⟨gT,tc',_,rfl,_,_,_⟩:=ch AJ oM
 have k5b:Below W2.heap.size W2 W5b:=(k5.trans (al5.mono k5.size)).grown yy (jT k5.size al5.size) (fun j hj=>(yB.t.lt j hj).1)
 have Eq:=yB.lies.kept yy (fun e=>yB.ne_t e.symm)
 have q0:W5b.cell? ⟨gO,0,none⟩=some (F TA x.t.length tc):=Eq.cell 0
 have q1:=Eq.frozen 0
 have Aq:=yB.setTs yy AJ
 have k6a:=k5b.trans ((Below.refl W2.heap.size W5b).grown (ab (g:=gO) (i:=0) (u:=F (some ⟨gT,0,none⟩) T1.length tc') (World.grownBy.refl W5b (some gO))) k5b.size (by rintro _ ⟨⟩; exact yB.hg))
 have LE:=L1.below k5b L1.lt
 have s1:=LE.cell 1
 simp only [gz0,gz1] at s1
 have hneO : ¬ gO=w.heap.size:=oM
 have hneO' : ¬ w.heap.size=gO:=oM
 go_wp2_with fail
 generalize W5b.setCell ⟨gO,0,none⟩ (F (some ⟨gT,0,none⟩) T1.length tc')=W6a at Aq k6a ⊢
 refine (bp ((⟨T1,x.o,x.gt,x.sd,x.ms⟩ : Oc).at (some ⟨gT,0,none⟩) tc' OA oc) gO st W6a (aE.at_ (y:=⟨T1,x.o,x.gt,x.sd,x.ms⟩) Aq)).mono ?_
 rintro e W6b ⟨rfl,hb6b⟩
 have Dq:=Aq.then hb6b
 have k5':=k6a.trans (hb6b.mono k6a.size)
 clear hneO hneO' s1 q0 q1 LE Eq k5b yB al5 xk k5 yo zp wV k4b Fh cI cB yy AJ hb5 yG
 rw [show ay ((⟨T1,x.o,x.gt,x.sd,x.ms⟩ : Oc).at (some ⟨gT,0,none⟩) tc' OA oc).t st=ay T1 st from rfl,JX]
 have yo:=L1.below k5' L1.lt
 have zr:=hA.then k5' k5'.size
 have CJ:∀ (fn:Fn) (first cap:Array Value) (w:World),(Instr.makeFunc fn first cap).run wH w=.ok (.func fn first cap) w:=fun _ _ _ _=>rfl
 go_wp2_with fail
 refine (dO (B:=0) yo zr G (Nat.zero_le _)).mono ?_
 rintro e W6 ⟨rfl,xn⟩
 have wW:=Dq.then xn
 have k6:=k5'.trans (xn.mono k5'.size)
 have yZ:=L1.below k6 L1.lt
 obtain ⟨s0,s1,s2,s3⟩:=cells4 yZ
 have k5:=k5'
 clear yo zr Dq Aq hb6b k6a xn k4
 generalize aP st 0 x.o=N at *
 obtain ⟨BH,BI⟩:=Be
 have c0:=wW.lies.cell 0
 simp only [List.getElem?_cons_zero] at c0
 obtain ⟨v,hv⟩ : ∃ v,(N == 0)=v:=⟨_,rfl⟩
 cases v
 all_goals
  go_wp2
  obtain ⟨ye,kt,ct,cf⟩:=aE.setT' (y:=⟨T1,x.o,x.gt,x.sd,x.ms⟩) (wW.then jB.drew) hi tr yj (tr.c+va)
  have kd:=k6.drew
  have yL:=L1.below kd L1.lt
  have u1:=yL.cell 1
  have u2:=yL.cell 2
  have u3:=yL.cell 3
  simp only [gz0,gz1] at u1 u2 u3
  go_still_tail 9,kZ
  change wpList _ _ _ _ _ W6.drew
  generalize W6.drew=Wd at ye kt ct cf kd yL u1 u2 u3 ⊢
  have k7:=kd.trans kt
  have hneT : ¬ gT=w.heap.size:=fun e=>by have:=(ye.t.lt gT rfl).1; have:=L1.lt; omega
  have hneT' : ¬ w.heap.size=gT:=fun e=>hneT e.symm
  have hneO : ¬ gO=w.heap.size:=oM
  have hneO' : ¬ w.heap.size=gO:=oM
  have hneG : ¬ gT=gO:=fun e=>ye.ne_t (by rw [← e]; rfl)
  have hneG' : ¬ gO=gT:=fun e=>hneG e.symm
  have d2:Wd.cell? ⟨gO,2,none⟩=some (O U x.gt):=by
   have:=ye.lies.cell 2
   rw [World.cell?_setCell_other _ _ _ _ sP] at this
   exact this
  have d2f:Wd.frozen? ⟨gO,2,none⟩=false:=by
   have:=ye.lies.frozen 2
   rwa [World.frozen?_setCell] at this
  have Fi:=(ye.setN (x.gt+va)).1
  have k8:=k7.trans (ye.belowN 2 (O U (x.gt+va)))
  go_wp2_with fail
  generalize (Wd.setCell ⟨gT,i * 2+1,none⟩ (O U (tr.c+va))).setCell ⟨gO,2,none⟩ (O U (x.gt+va))=W8 at Fi k8 ⊢
  replace xi:∃ vt vo,aE W8 W2.heap.size gO vt vo r:=⟨_,_,by rw [hr]; exact Fi⟩
  obtain ⟨vt,vo,xi⟩:=xi
  clear hr ye Fi wW c0 ct cf u1 u2 u3 s0 s1 s2 s3 yZ yL kt kd k7 k6 k5 d2 d2f
  obtain ⟨A1,a1,A2,a2,rfl,rfl⟩:=xi.form
  have cV:=bc (r.at A1 a1 A2 a2) gO W8 (aE.at_ (y:=r) xi)
  rw [Oc.good_at] at cV
  cases hg:r.good
  ·rw [hg] at cV
   have HN:Hid (bj x.c ⟨1,st,0,va⟩=none):=by unfold Hid; rw [HR.out,Oc.fin,hg]; rfl
   clear hg
   go_wp2_with fail
   refine cV.mono ?_
   rintro e W9 ⟨rfl,hb9⟩
   have k9:=k8.trans (hb9.mono k8.size)
   clear hb9 cV
   have wU:=L2.below k9 L2.lt
   have z0:=wU.cell 0
   have z1:=wU.cell 1
   have z2:=wU.cell 2
   have z3:=wU.cell 3
   have z4:=wU.cell 4
   obtain ⟨f0,f1,f2,f3,f4⟩:=frz5 wU
   simp only [gz0,gz1] at z0 z1 z2 z3 z4
   have wY:=ab (g:=w.heap.size+1) (i:=4) (u:=O U 0) (gw4 W9 (w.heap.size+1) (F none 0 0) (F none 0 0) (O U 0) (O U 0))
   have bw:=b2.trans (k9.mono b2.size)
   have bz:=bw.grown wY bw.size (by rintro _ ⟨⟩; omega)
   go_wp2
   rw [HN.out]
   refine bodyPost_ret (v:=.tuple #[.agg #[F none 0 0,F none 0 0,O U 0,O U 0,O U 0],.bool false]) (by simp [results,Tryz.results186,go_sem, *]) rfl (aF.no rfl bz)
  ·rw [hg] at cV
   have HN:Hid (bj x.c ⟨1,st,0,va⟩=some r):=by unfold Hid; rw [HR.out,Oc.fin,hg]; rfl
   clear hg
   go_wp2_with fail
   refine cV.mono ?_
   rintro e W9 ⟨rfl,hb9⟩
   have k9:=k8.trans (hb9.mono k8.size)
   have xM:=xi.then hb9
   clear hb9 cV xi
   obtain ⟨c0,c1,c2,c3,c4⟩:=cells5 xM.lies
   have wU:=L2.below k9 L2.lt
   have z0:=wU.cell 0
   have z1:=wU.cell 1
   have z2:=wU.cell 2
   have z3:=wU.cell 3
   have z4:=wU.cell 4
   obtain ⟨f0,f1,f2,f3,f4⟩:=frz5 wU
   simp only [gz0,gz1] at z0 z1 z2 z3 z4
   have wY:=ab (g:=w.heap.size+1) (i:=4) (u:=O U r.ms) (gw4 W9 (w.heap.size+1) (F A1 r.t.length a1) (F A2 r.o.length a2) (O U r.gt) (O U r.sd))
   have bw:=b2.trans (k9.mono b2.size)
   have bz:=bw.grown wY bw.size (by rintro _ ⟨⟩; omega)
   have r8:=ah (ak xM.t wU fz wY) b2.size
   have r9:=ah (ak xM.o wU fg wY) b2.size
   have R8:=jZ r8; clear r8
   have R9:=jZ r9; clear r9
   clear wY xM
   go_wp2
   rw [HN.out]
   refine bodyPost_ret (v:=.tuple #[.agg #[F A1 r.t.length a1,F A2 r.o.length a2,O U r.gt,O U r.sd,O U r.ms],.bool true]) (by simp [results,Tryz.results186,go_sem, *]) rfl ?_
   exact aF.yes rfl R8.out R9.out bz
end Go.Proofs.YtoeoimhemojdeaaGreatDoor
