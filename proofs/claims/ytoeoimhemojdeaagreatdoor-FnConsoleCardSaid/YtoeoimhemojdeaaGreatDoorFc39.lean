/- Lemmas. -/
import Derived.Test.YtoeoimhemojdeaaGreatDoorFc14

set_option linter.unusedVariables false
set_option linter.unusedSimpArgs false
set_option maxHeartbeats 8000000
open Go.Value renaming int → O, slice → F, string → vw
open Go.IntKind renaming i64 → U
open Go.Proofs.Tryz renaming prog → vx

namespace Go.Proofs.YtoeoimhemojdeaaGreatDoor
open Go.RowKit
set_option maxRecDepth 100000 in
theorem qI (x:aO) (g:Nat) (st pe va:Int) (w:World) (h:cm w w.heap.size g x) (G:bH x) (i:Nat) (hi:i < x.t.length) (hI:ax x.t st=i) (wV:pe=0) (yo:1≤va∧va≤9999) :
  Calls vx 186 #[.pointer (some ⟨g,0,none⟩),.agg #[O U 1,O U st,O U pe,O U va]] w (aE w (bf x.c ⟨1,st,pe,va⟩)):=by
 subst wV
 obtain ⟨tr,xD⟩ : ∃ tr,x.c.t[i]=tr:=⟨_,rfl⟩
 obtain ⟨r,hr⟩ : ∃ r:Oc,r=⟨x.t.set i ⟨tr.k,tr.c+va⟩,x.o,x.gt+va,x.sd,x.ms⟩:=⟨_,rfl⟩
 have HR:Hid (bf x.c ⟨1,st,0,va⟩=Oc.fin r):=by
  unfold Hid bf
  rw [if_pos rfl]
  rw [show aj x.c.t st (va)=x.t.set i ⟨tr.k,tr.c+va⟩ from by show aj x.t st _=_; rw [ia hI hi,show x.t[i]=tr from xD]]
  rw [hr]
  rfl
 have zP:=G.at_bd st 0
 have xz:(0:Int)≤(i:Int):=oM
 have LY : ¬ (i:Int) < 0:=oM
 have zD:=(aq.bounds (G.tall i hi)).2
 rw [show x.t[i]=tr from xD] at zD
 obtain ⟨y9,AM⟩:=zD
 have wW:=G.g
 obtain ⟨CD,CE⟩:=wW
 obtain ⟨AS,AT⟩:=yo
 have L1:=(ah.new w 112 #[O U 1,O U st,O U 0,O U va]).alloc (.cells #[F none 0 0,F none 0 0,O U 0,O U 0,O U 0] 40)
 have L2:=ah.new1 w (.cells #[O U 1,O U st,O U 0,O U va] 112) 40 #[F none 0 0,F none 0 0,O U 0,O U 0,O U 0]
 have b1:=bZ w (.cells #[O U 1,O U st,O U 0,O U va] 112)
 have b2:=b1.alloc b1.size (.cells #[F none 0 0,F none 0 0,O U 0,O U 0,O U 0] 40)
 have hA:=h.then b2 b2.size
 have tl:=G.tl
 have ol:=G.ol
 clear b1
 go_enter Tryz.func186,Tryz.ntmps186
 go_wp2_with fail
 generalize ((w.alloc (.cells #[O U 1,O U st,O U 0,O U va] 112)).alloc (.cells #[F none 0 0,F none 0 0,O U 0,O U 0,O U 0] 40))=W2 at L1 L2 b2 hA ⊢
 refine (ck x g W2 hA oM oM).mono ?_
 rintro e W3 ⟨TA,tc,OA,oc,rfl,hT,hO,k3⟩
 obtain ⟨gT,cT,_,Ao,_,_,_⟩:=cd hT oM
 injection Ao with e1 e2 e3
 subst e1; subst e3
 have vE:=(Below.refl W3.heap.size W3).alloc nR (.cells #[F (some ⟨gT,0,none⟩) x.t.length tc,F OA x.o.length oc,O U x.gt,O U x.sd,O U x.ms] 40)
 have vR:aC (W3.alloc (.cells #[F (some ⟨gT,0,none⟩) x.t.length tc,F OA x.o.length oc,O U x.gt,O U x.sd,O U x.ms] 40)) W2.heap.size W3.heap.size _ _ x.c:=⟨ah.new W3 40 #[F (some ⟨gT,0,none⟩) x.t.length tc,F OA x.o.length oc,O U x.gt,O U x.sd,O U x.ms],k3.size,ac hT vE,ac hO vE⟩
 have k4:=k3.trans (vE.mono k3.size)
 obtain ⟨s0,s1⟩:=cells2 (L1.below k4 L1.lt)
 have hgO:w.heap.size+1 < W3.heap.size:=jL L2.lt k3.size
 clear hT hO k3
 have DI:=hA.then k4 k4.size
 go_wp2_with fail
 clear s0 s1 vE
 generalize W3.alloc (.cells #[F (some ⟨gT,0,none⟩) x.t.length tc,F OA x.o.length oc,O U x.gt,O U x.sd,O U x.ms] 40)=W4 at vR k4 DI ⊢
 generalize W3.heap.size=gO at vR hgO ⊢
 refine (bh x g st W4 DI).mono ?_
 rintro e W4b ⟨rfl,vN⟩
 rw [hI]
 have yi:=vR.then vN
 have k4b:=k4.trans (vN.mono k4.size)
 have xE:=L1.below k4b L1.lt
 have s1:=xE.cell 1
 simp only [gz0,gz1] at s1
 go_wp2_with fail
 refine (bh (x.c.at (some ⟨gT,0,none⟩) tc OA oc) gO st W4b (aC.at_ (y:=x.c) yi)).mono ?_
 rintro e W5 ⟨rfl,hb5⟩
 have vW:=yi.then hb5
 have k5:=k4b.trans (hb5.mono k4b.size)
 clear s1 xE yi vN k4b DI
 rw [show ax (x.c.at (some ⟨gT,0,none⟩) tc OA oc).t st=ax x.t st from rfl,hI]
 have xj:=L1.below k5 L1.lt
 have yj:=hA.then k5 k5.size
 have Bl:∀ (fn:Fn) (first cap:Array Value) (w:World),(Instr.makeFunc fn first cap).run vx w=.ok (.func fn first cap) w:=fun _ _ _ _=>rfl
 go_wp2_with fail
 refine (dH (B:=0) xj yj G (Nat.zero_le _)).mono ?_
 rintro e W6 ⟨rfl,wk⟩
 have vL:=vW.then wk
 have k6:=k5.trans (wk.mono k5.size)
 have xS:=L1.below k6 L1.lt
 obtain ⟨s0,s1,s2,s3⟩:=cells4 xS
 clear xj yj vW vR hb5 wk k4
 generalize aN st 0 x.o=N at *
 obtain ⟨Ap,Aq⟩:=zP
 have c0:=vL.lies.cell 0
 simp only [List.getElem?_cons_zero] at c0
 obtain ⟨v,hv⟩ : ∃ v,(N == 0)=v:=⟨_,rfl⟩
 cases v
 all_goals
  go_wp2
  obtain ⟨wY,kt,ct,cf⟩:=aC.setT' (y:=x.c) (vL.then jB.drew) hi tr xD (tr.c+va)
  have kd:=k6.drew
  have xI:=L1.below kd L1.lt
  have u1:=xI.cell 1
  have u2:=xI.cell 2
  have u3:=xI.cell 3
  simp only [gz0,gz1] at u1 u2 u3
  go_still_tail 9,kZ
  change wpList _ _ _ _ _ W6.drew
  generalize W6.drew=Wd at wY kt ct cf kd xI u1 u2 u3 ⊢
  have k7:=kd.trans kt
  have hneT : ¬ gT=w.heap.size:=fun e=>by have:=(wY.t.lt gT rfl).1; have:=L1.lt; omega
  have hneT' : ¬ w.heap.size=gT:=fun e=>hneT e.symm
  have hneO : ¬ gO=w.heap.size:=oM
  have hneO' : ¬ w.heap.size=gO:=oM
  have hneG : ¬ gT=gO:=fun e=>wY.ne_t (by rw [← e]; rfl)
  have hneG' : ¬ gO=gT:=fun e=>hneG e.symm
  have d2:Wd.cell? ⟨gO,2,none⟩=some (O U x.gt):=by
   have:=wY.lies.cell 2
   rw [World.cell?_setCell_other _ _ _ _ sP] at this
   exact this
  have d2f:Wd.frozen? ⟨gO,2,none⟩=false:=by
   have:=wY.lies.frozen 2
   rwa [World.frozen?_setCell] at this
  have DJ:=(wY.setN (x.gt+va)).1
  have k8:=k7.trans (wY.belowN 2 (O U (x.gt+va)))
  go_wp2_with fail
  generalize (Wd.setCell ⟨gT,i * 2+1,none⟩ (O U (tr.c+va))).setCell ⟨gO,2,none⟩ (O U (x.gt+va))=W8 at DJ k8 ⊢
  replace vU:∃ vt vo,aC W8 W2.heap.size gO vt vo r:=⟨_,_,by rw [hr]; exact DJ⟩
  obtain ⟨vt,vo,vU⟩:=vU
  clear hr wY DJ vL c0 ct cf u1 u2 u3 s0 s1 s2 s3 xS xI kt kd k7 k6 k5 d2 d2f
  obtain ⟨A1,a1,A2,a2,rfl,rfl⟩:=vU.form
  have cV:=aZ (r.at A1 a1 A2 a2) gO W8 (aC.at_ (y:=r) vU)
  rw [Oc.good_at] at cV
  cases hg:r.good
  ·rw [hg] at cV
   have HN:Hid (bf x.c ⟨1,st,0,va⟩=none):=by unfold Hid; rw [HR.out,Oc.fin,hg]; rfl
   clear hg
   go_wp2_with fail
   refine cV.mono ?_
   rintro e W9 ⟨rfl,hb9⟩
   have k9:=k8.trans (hb9.mono k8.size)
   clear hb9 cV
   have vK:=L2.below k9 L2.lt
   have z0:=vK.cell 0
   have z1:=vK.cell 1
   have z2:=vK.cell 2
   have z3:=vK.cell 3
   have z4:=vK.cell 4
   obtain ⟨f0,f1,f2,f3,f4⟩:=frz5 vK
   simp only [gz0,gz1] at z0 z1 z2 z3 z4
   have vO:=ab (g:=w.heap.size+1) (i:=4) (u:=O U 0) (gw4 W9 (w.heap.size+1) (F none 0 0) (F none 0 0) (O U 0) (O U 0))
   have bw:=b2.trans (k9.mono b2.size)
   have bz:=bw.grown vO bw.size (by rintro _ ⟨⟩; omega)
   go_wp2
   rw [HN.out]
   refine bodyPost_ret (v:=.tuple #[.agg #[F none 0 0,F none 0 0,O U 0,O U 0,O U 0],.bool false]) (by simp [results,Tryz.results186,go_sem, *]) rfl (aE.no rfl bz)
  ·rw [hg] at cV
   have HN:Hid (bf x.c ⟨1,st,0,va⟩=some r):=by unfold Hid; rw [HR.out,Oc.fin,hg]; rfl
   clear hg
   go_wp2_with fail
   refine cV.mono ?_
   rintro e W9 ⟨rfl,hb9⟩
   have k9:=k8.trans (hb9.mono k8.size)
   have wB:=vU.then hb9
   clear hb9 cV vU
   obtain ⟨c0,c1,c2,c3,c4⟩:=cells5 wB.lies
   have vK:=L2.below k9 L2.lt
   have z0:=vK.cell 0
   have z1:=vK.cell 1
   have z2:=vK.cell 2
   have z3:=vK.cell 3
   have z4:=vK.cell 4
   obtain ⟨f0,f1,f2,f3,f4⟩:=frz5 vK
   simp only [gz0,gz1] at z0 z1 z2 z3 z4
   have vO:=ab (g:=w.heap.size+1) (i:=4) (u:=O U r.ms) (gw4 W9 (w.heap.size+1) (F A1 r.t.length a1) (F A2 r.o.length a2) (O U r.gt) (O U r.sd))
   have bw:=b2.trans (k9.mono b2.size)
   have bz:=bw.grown vO bw.size (by rintro _ ⟨⟩; omega)
   have r8:=ai (ak wB.t vK fk vO) b2.size
   have r9:=ai (ak wB.o vK eV vO) b2.size
   have R8:=jZ r8; clear r8
   have R9:=jZ r9; clear r9
   clear vO wB
   go_wp2
   rw [HN.out]
   refine bodyPost_ret (v:=.tuple #[.agg #[F A1 r.t.length a1,F A2 r.o.length a2,O U r.gt,O U r.sd,O U r.ms],.bool true]) (by simp [results,Tryz.results186,go_sem, *]) rfl ?_
   exact aE.yes rfl R8.out R9.out bz
set_option maxRecDepth 100000 in
theorem qJ (x:aO) (g:Nat) (st pe va:Int) (w:World) (h:cm w w.heap.size g x) (G:bH x) (hI:ax x.t st < 0) (vX:1≤st∧st≤99) (wV:pe=0) (yo:1≤va∧va≤9999) :
  Calls vx 186 #[.pointer (some ⟨g,0,none⟩),.agg #[O U 1,O U st,O U pe,O U va]] w (aE w (bf x.c ⟨1,st,pe,va⟩)):=by
 subst wV
 obtain ⟨KW,KX⟩:=vX
 have DK : ¬ 0≤ax x.t st:=oM
 have Ir:=qV DK
 have wT:=pJ va DK
 have yO:=jY x.t st
 have Gv:=pR x.t st
 obtain ⟨xC,hat⟩:=rf x.t st
 have Er:(x.t.flatMap aq.enc).take (dy x.t st * 2)++aq.enc ⟨st,0⟩++(x.t.flatMap aq.enc).drop (dy x.t st * 2)=(ed x.t st).flatMap aq.enc:=(pO aq.enc 2 aq.enc_len x.t (dy x.t st) ⟨st,0⟩).symm
 have zn:∀ i (h:i < x.t.length),i < dy x.t st→iu x.t[i].k st < 0:=fun i h hi=>sc.2 (r5 x.t st i h hi)
 have As:∀ i (h:i < x.t.length),dy x.t st≤i→¬ iu x.t[i].k st < 0:=fun i h hi hc=>uB x.t st G.ascT i h hi (sc.1 hc)
 have At:∀ h:dy x.t st < x.t.length,false=decide (iu x.t[dy x.t st].k st=0):=fun h=>by
  symm; rw [decide_eq_false_iff_not,sC]; exact mj DK _ (List.getElem_mem _)
 have cB:=fun (A:Option Addr) (c:Nat) (W:World) (hW:fm W W.heap.size A x.t)=>q8 (fun t=>iu t.k st) (O U st) 213 #[] Tryz.call213 A c x.t W (fun t p=>re t st p.val) hW (by have:=G.tl; omega) (dy x.t st) yO zn As false At (fun _=>rfl)
 obtain ⟨tr,BP⟩ : ∃ tr:aq,tr=⟨st,0⟩:=⟨_,rfl⟩
 have y9:0≤tr.c:=by rw [BP]; exact Int.le_refl _
 have AM:tr.c≤9999:=by rw [BP]; show (0:Int)≤9999; omega
 have xX:(ed x.t st).getD (dy x.t st) default=tr:=by rw [List.getD_eq_getElem?_getD,List.getElem?_eq_getElem xC,hat,BP]; rfl
 rw [xX] at wT
 rw [← BP] at hat
 clear xX zn As At BP
 generalize ed x.t st=T1 at Ir wT Gv xC hat Er
 generalize dy x.t st=i at Ir wT yO xC hat Er cB
 have hi:i < T1.length:=xC
 have xD:T1[i]=tr:=hat
 obtain ⟨r,hr⟩ : ∃ r:Oc,r=⟨T1.set i ⟨tr.k,tr.c+va⟩,x.o,x.gt+va,x.sd,x.ms⟩:=⟨_,rfl⟩
 have HR:Hid (bf x.c ⟨1,st,0,va⟩=Oc.fin r):=by
  unfold Hid bf
  rw [if_pos rfl]
  show Oc.fin ⟨aj x.t st va,x.o,x.gt+va,x.sd,x.ms⟩=_
  rw [wT,hr]
 have zP:=G.at_bd st 0
 have xz:(0:Int)≤(i:Int):=oM
 have KY:=jZ Er
 clear wT Er hat xC
 have wW:=G.g
 obtain ⟨CD,CE⟩:=wW
 obtain ⟨AS,AT⟩:=yo
 have L1:=(ah.new w 112 #[O U 1,O U st,O U 0,O U va]).alloc (.cells #[F none 0 0,F none 0 0,O U 0,O U 0,O U 0] 40)
 have L2:=ah.new1 w (.cells #[O U 1,O U st,O U 0,O U va] 112) 40 #[F none 0 0,F none 0 0,O U 0,O U 0,O U 0]
 have b1:=bZ w (.cells #[O U 1,O U st,O U 0,O U va] 112)
 have b2:=b1.alloc b1.size (.cells #[F none 0 0,F none 0 0,O U 0,O U 0,O U 0] 40)
 have hA:=h.then b2 b2.size
 have tl:=G.tl
 have ol:=G.ol
 clear b1
 go_enter Tryz.func186,Tryz.ntmps186
 go_wp2_with fail
 generalize ((w.alloc (.cells #[O U 1,O U st,O U 0,O U va] 112)).alloc (.cells #[F none 0 0,F none 0 0,O U 0,O U 0,O U 0] 40))=W2 at L1 L2 b2 hA ⊢
 refine (ck x g W2 hA oM oM).mono ?_
 rintro e W3 ⟨TA,tc,OA,oc,rfl,hT,hO,k3⟩
 have vE:=(Below.refl W3.heap.size W3).alloc nR (.cells #[F TA x.t.length tc,F OA x.o.length oc,O U x.gt,O U x.sd,O U x.ms] 40)
 have vR:aC (W3.alloc (.cells #[F TA x.t.length tc,F OA x.o.length oc,O U x.gt,O U x.sd,O U x.ms] 40)) W2.heap.size W3.heap.size _ _ x.c:=⟨ah.new W3 40 #[F TA x.t.length tc,F OA x.o.length oc,O U x.gt,O U x.sd,O U x.ms],k3.size,ac hT vE,ac hO vE⟩
 have k4:=k3.trans (vE.mono k3.size)
 obtain ⟨s0,s1⟩:=cells2 (L1.below k4 L1.lt)
 have hgO:w.heap.size+1 < W3.heap.size:=jL L2.lt k3.size
 clear hT hO k3
 have DI:=hA.then k4 k4.size
 go_wp2_with fail
 clear s0 s1 vE
 generalize W3.alloc (.cells #[F TA x.t.length tc,F OA x.o.length oc,O U x.gt,O U x.sd,O U x.ms] 40)=W4 at vR k4 DI ⊢
 generalize W3.heap.size=gO at vR hgO ⊢
 refine (bh x g st W4 DI).mono ?_
 rintro e W4b ⟨rfl,vN⟩
 generalize ax x.t st=I0 at hI ⊢
 have yi:=vR.then vN
 have k4b:=k4.trans (vN.mono k4.size)
 have xE:=L1.below k4b L1.lt
 have s1:=xE.cell 1
 simp only [gz0,gz1] at s1
 have q0:W4b.cell? ⟨gO,0,none⟩=some (F TA x.t.length tc):=yi.lies.cell 0
 go_wp2_with fail
 refine (cB TA tc W4b (ay yi.t)).mono ?_
 rintro e W5 ⟨rfl,hb5⟩
 have vW:=yi.then hb5
 have k5:=k4b.trans (hb5.mono k4b.size)
 have xj:=L1.below k5 L1.lt
 clear s1 q0
 have s1:=xj.cell 1
 simp only [gz0,gz1] at s1
 have q0:W5.cell? ⟨gO,0,none⟩=some (F TA x.t.length tc):=vW.lies.cell 0
 have al5:=(Below.refl W5.heap.size W5).alloc nR (.cells #[O U st,O U 0] 104)
 have xx:=vW.then al5
 have cI:=pN W2.heap.size (F TA x.t.length tc) x.t.length (x.t.flatMap aq.enc) (W5.alloc (.cells #[O U st,O U 0] 104)) xx.t oM i yO ⟨st,0⟩ W5.heap.size 1 (ah.new W5 104 #[O U st,O U 0]) (fun e=>by have:=(vW.t.lt _ e).2; omega) (jT k5.size al5.size) eF
 rw [KY.out,← Gv] at cI
 clear Gv
 go_wp2_with fail
 clear s1 q0
 generalize W5.alloc (.cells #[O U st,O U 0] 104)=W5a at al5 xx cI ⊢
 refine cI.mono ?_
 rintro e W5b ⟨v',rfl,zx,xw⟩
 obtain ⟨gT,tc',_,rfl,_,_,_⟩:=cd zx oM
 have k5b:Below W2.heap.size W2 W5b:=(k5.trans (al5.mono k5.size)).grown xw (jT k5.size al5.size) (fun j hj=>(xx.t.lt j hj).1)
 have CO:=xx.lies.kept xw (fun e=>xx.ne_t e.symm)
 have q0:W5b.cell? ⟨gO,0,none⟩=some (F TA x.t.length tc):=CO.cell 0
 have q1:=CO.frozen 0
 have ze:=xx.setTs xw zx
 have k6a:=k5b.trans ((Below.refl W2.heap.size W5b).grown (ab (g:=gO) (i:=0) (u:=F (some ⟨gT,0,none⟩) T1.length tc') (World.grownBy.refl W5b (some gO))) k5b.size (by rintro _ ⟨⟩; exact xx.hg))
 have Jt:=L1.below k5b L1.lt
 have s1:=Jt.cell 1
 simp only [gz0,gz1] at s1
 have hneO : ¬ gO=w.heap.size:=oM
 have hneO' : ¬ w.heap.size=gO:=oM
 go_wp2_with fail
 generalize W5b.setCell ⟨gO,0,none⟩ (F (some ⟨gT,0,none⟩) T1.length tc')=W6a at ze k6a ⊢
 refine (bh ((⟨T1,x.o,x.gt,x.sd,x.ms⟩ : Oc).at (some ⟨gT,0,none⟩) tc' OA oc) gO st W6a (aC.at_ (y:=⟨T1,x.o,x.gt,x.sd,x.ms⟩) ze)).mono ?_
 rintro e W6b ⟨rfl,hb6b⟩
 have BQ:=ze.then hb6b
 have k5':=k6a.trans (hb6b.mono k6a.size)
 clear hneO hneO' s1 q0 q1 Jt CO k5b xx al5 vW k5 xj yi vN k4b DI cI cB xw zx hb5 xE
 rw [show ax ((⟨T1,x.o,x.gt,x.sd,x.ms⟩ : Oc).at (some ⟨gT,0,none⟩) tc' OA oc).t st=ax T1 st from rfl,Ir]
 have xj:=L1.below k5' L1.lt
 have yj:=hA.then k5' k5'.size
 have Bl:∀ (fn:Fn) (first cap:Array Value) (w:World),(Instr.makeFunc fn first cap).run vx w=.ok (.func fn first cap) w:=fun _ _ _ _=>rfl
 go_wp2_with fail
 refine (dH (B:=0) xj yj G (Nat.zero_le _)).mono ?_
 rintro e W6 ⟨rfl,wk⟩
 have vL:=BQ.then wk
 have k6:=k5'.trans (wk.mono k5'.size)
 have xS:=L1.below k6 L1.lt
 obtain ⟨s0,s1,s2,s3⟩:=cells4 xS
 have k5:=k5'
 clear xj yj BQ ze hb6b k6a wk k4
 generalize aN st 0 x.o=N at *
 obtain ⟨Ap,Aq⟩:=zP
 have c0:=vL.lies.cell 0
 simp only [List.getElem?_cons_zero] at c0
 obtain ⟨v,hv⟩ : ∃ v,(N == 0)=v:=⟨_,rfl⟩
 cases v
 all_goals
  go_wp2
  obtain ⟨wY,kt,ct,cf⟩:=aC.setT' (y:=⟨T1,x.o,x.gt,x.sd,x.ms⟩) (vL.then jB.drew) hi tr xD (tr.c+va)
  have kd:=k6.drew
  have xI:=L1.below kd L1.lt
  have u1:=xI.cell 1
  have u2:=xI.cell 2
  have u3:=xI.cell 3
  simp only [gz0,gz1] at u1 u2 u3
  go_still_tail 9,kZ
  change wpList _ _ _ _ _ W6.drew
  generalize W6.drew=Wd at wY kt ct cf kd xI u1 u2 u3 ⊢
  have k7:=kd.trans kt
  have hneT : ¬ gT=w.heap.size:=fun e=>by have:=(wY.t.lt gT rfl).1; have:=L1.lt; omega
  have hneT' : ¬ w.heap.size=gT:=fun e=>hneT e.symm
  have hneO : ¬ gO=w.heap.size:=oM
  have hneO' : ¬ w.heap.size=gO:=oM
  have hneG : ¬ gT=gO:=fun e=>wY.ne_t (by rw [← e]; rfl)
  have hneG' : ¬ gO=gT:=fun e=>hneG e.symm
  have d2:Wd.cell? ⟨gO,2,none⟩=some (O U x.gt):=by
   have:=wY.lies.cell 2
   rw [World.cell?_setCell_other _ _ _ _ sP] at this
   exact this
  have d2f:Wd.frozen? ⟨gO,2,none⟩=false:=by
   have:=wY.lies.frozen 2
   rwa [World.frozen?_setCell] at this
  have DJ:=(wY.setN (x.gt+va)).1
  have k8:=k7.trans (wY.belowN 2 (O U (x.gt+va)))
  go_wp2_with fail
  generalize (Wd.setCell ⟨gT,i * 2+1,none⟩ (O U (tr.c+va))).setCell ⟨gO,2,none⟩ (O U (x.gt+va))=W8 at DJ k8 ⊢
  replace vU:∃ vt vo,aC W8 W2.heap.size gO vt vo r:=⟨_,_,by rw [hr]; exact DJ⟩
  obtain ⟨vt,vo,vU⟩:=vU
  clear hr wY DJ vL c0 ct cf u1 u2 u3 s0 s1 s2 s3 xS xI kt kd k7 k6 k5 d2 d2f
  obtain ⟨A1,a1,A2,a2,rfl,rfl⟩:=vU.form
  have cV:=aZ (r.at A1 a1 A2 a2) gO W8 (aC.at_ (y:=r) vU)
  rw [Oc.good_at] at cV
  cases hg:r.good
  ·rw [hg] at cV
   have HN:Hid (bf x.c ⟨1,st,0,va⟩=none):=by unfold Hid; rw [HR.out,Oc.fin,hg]; rfl
   clear hg
   go_wp2_with fail
   refine cV.mono ?_
   rintro e W9 ⟨rfl,hb9⟩
   have k9:=k8.trans (hb9.mono k8.size)
   clear hb9 cV
   have vK:=L2.below k9 L2.lt
   have z0:=vK.cell 0
   have z1:=vK.cell 1
   have z2:=vK.cell 2
   have z3:=vK.cell 3
   have z4:=vK.cell 4
   obtain ⟨f0,f1,f2,f3,f4⟩:=frz5 vK
   simp only [gz0,gz1] at z0 z1 z2 z3 z4
   have vO:=ab (g:=w.heap.size+1) (i:=4) (u:=O U 0) (gw4 W9 (w.heap.size+1) (F none 0 0) (F none 0 0) (O U 0) (O U 0))
   have bw:=b2.trans (k9.mono b2.size)
   have bz:=bw.grown vO bw.size (by rintro _ ⟨⟩; omega)
   go_wp2
   rw [HN.out]
   refine bodyPost_ret (v:=.tuple #[.agg #[F none 0 0,F none 0 0,O U 0,O U 0,O U 0],.bool false]) (by simp [results,Tryz.results186,go_sem, *]) rfl (aE.no rfl bz)
  ·rw [hg] at cV
   have HN:Hid (bf x.c ⟨1,st,0,va⟩=some r):=by unfold Hid; rw [HR.out,Oc.fin,hg]; rfl
   clear hg
   go_wp2_with fail
   refine cV.mono ?_
   rintro e W9 ⟨rfl,hb9⟩
   have k9:=k8.trans (hb9.mono k8.size)
   have wB:=vU.then hb9
   clear hb9 cV vU
   obtain ⟨c0,c1,c2,c3,c4⟩:=cells5 wB.lies
   have vK:=L2.below k9 L2.lt
   have z0:=vK.cell 0
   have z1:=vK.cell 1
   have z2:=vK.cell 2
   have z3:=vK.cell 3
   have z4:=vK.cell 4
   obtain ⟨f0,f1,f2,f3,f4⟩:=frz5 vK
   simp only [gz0,gz1] at z0 z1 z2 z3 z4
   have vO:=ab (g:=w.heap.size+1) (i:=4) (u:=O U r.ms) (gw4 W9 (w.heap.size+1) (F A1 r.t.length a1) (F A2 r.o.length a2) (O U r.gt) (O U r.sd))
   have bw:=b2.trans (k9.mono b2.size)
   have bz:=bw.grown vO bw.size (by rintro _ ⟨⟩; omega)
   have r8:=ai (ak wB.t vK fk vO) b2.size
   have r9:=ai (ak wB.o vK eV vO) b2.size
   have R8:=jZ r8; clear r8
   have R9:=jZ r9; clear r9
   clear vO wB
   go_wp2
   rw [HN.out]
   refine bodyPost_ret (v:=.tuple #[.agg #[F A1 r.t.length a1,F A2 r.o.length a2,O U r.gt,O U r.sd,O U r.ms],.bool true]) (by simp [results,Tryz.results186,go_sem, *]) rfl ?_
   exact aE.yes rfl R8.out R9.out bz
end Go.Proofs.YtoeoimhemojdeaaGreatDoor
