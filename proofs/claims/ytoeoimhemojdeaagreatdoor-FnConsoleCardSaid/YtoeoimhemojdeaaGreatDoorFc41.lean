/- Lemmas. -/
import Derived.Test.YtoeoimhemojdeaaGreatDoorFc14

set_option linter.unusedVariables false
set_option linter.unusedSimpArgs false
set_option maxHeartbeats 8000000
open Go.Value renaming int → O, slice → F, string → vw
open Go.IntKind renaming i64 → U
open Go.Proofs.Tryz renaming prog → vx

namespace Go.Proofs.YtoeoimhemojdeaaGreatDoor
open Go.RowKit
set_option maxRecDepth 100000 in
theorem rQ (x:aO) (g:Nat) (st pe va:Int) (w:World) (h:cm w w.heap.size g x) (G:bH x) (i:Nat) (hi:i < x.t.length) (hI:ax x.t st=i) (wV:pe=0) (yo:1≤va∧va≤9999) :
  Calls vx 186 #[.pointer (some ⟨g,0,none⟩),.agg #[O U 4,O U st,O U pe,O U va]] w (aE w (bf x.c ⟨4,st,pe,va⟩)):=by
 subst wV
 obtain ⟨tr,xD⟩ : ∃ tr,x.c.t[i]=tr:=⟨_,rfl⟩
 obtain ⟨r,hr⟩ : ∃ r:Oc,r=⟨x.t.set i ⟨tr.k,tr.c - va⟩,x.o,x.gt,x.sd+va,x.ms⟩:=⟨_,rfl⟩
 have HR:Hid (bf x.c ⟨4,st,0,va⟩=Oc.fin r):=by
  unfold Hid bf
  rw [if_neg sP]
  rw [if_neg (by show ¬ ¬ 0≤ax x.t st; rw [hI]; omega)]
  rw [if_neg sP]
  rw [if_neg (by show ¬ (aN st 0 x.o=0∧(0:Int) < 0); omega)]
  rw [if_neg sP]
  rw [if_pos rfl,if_pos rfl]
  rw [show aj x.c.t st (-va)=x.t.set i ⟨tr.k,tr.c - va⟩ from by show aj x.t st _=_; rw [ia hI hi,show x.t[i]=tr from xD,← Int.sub_eq_add_neg]]
  rw [hr]
  rfl
 have zP:=G.at_bd st 0
 have yq:=G.asc
 have BR:=G.oc
 have xz:(0:Int)≤(i:Int):=oM
 have zD:=(aq.bounds (G.tall i hi)).2
 rw [show x.t[i]=tr from xD] at zD
 obtain ⟨y9,AM⟩:=zD
 obtain ⟨AS,AT⟩:=yo
 have L1:=(ah.new w 112 #[O U 4,O U st,O U 0,O U va]).alloc (.cells #[F none 0 0,F none 0 0,O U 0,O U 0,O U 0] 40)
 have L2:=ah.new1 w (.cells #[O U 4,O U st,O U 0,O U va] 112) 40 #[F none 0 0,F none 0 0,O U 0,O U 0,O U 0]
 have b1:=bZ w (.cells #[O U 4,O U st,O U 0,O U va] 112)
 have b2:=b1.alloc b1.size (.cells #[F none 0 0,F none 0 0,O U 0,O U 0,O U 0] 40)
 have hA:=h.then b2 b2.size
 have tl:=G.tl
 have ol:=G.ol
 clear b1
 go_enter Tryz.func186,Tryz.ntmps186
 go_wp2_with fail
 generalize ((w.alloc (.cells #[O U 4,O U st,O U 0,O U va] 112)).alloc (.cells #[F none 0 0,F none 0 0,O U 0,O U 0,O U 0] 40))=W2 at L1 L2 b2 hA ⊢
 refine (ck x g W2 hA oM oM).mono ?_
 rintro e W3 ⟨TA,tc,OA,oc,rfl,hT,hO,k3⟩
 obtain ⟨gT,cT,_,Ao,_,_,_⟩:=cd hT oM
 injection Ao with e1 e2 e3
 subst e1; subst e3
 have vE:=(Below.refl W3.heap.size W3).alloc nR (.cells #[F (some ⟨gT,0,none⟩) x.t.length tc,F OA x.o.length oc,O U x.gt,O U x.sd,O U x.ms] 40)
 have vR:aC (W3.alloc (.cells #[F (some ⟨gT,0,none⟩) x.t.length tc,F OA x.o.length oc,O U x.gt,O U x.sd,O U x.ms] 40)) W2.heap.size W3.heap.size _ _ x.c:=⟨ah.new W3 40 #[F (some ⟨gT,0,none⟩) x.t.length tc,F OA x.o.length oc,O U x.gt,O U x.sd,O U x.ms],k3.size,ac hT vE,ac hO vE⟩
 have k4:=k3.trans (vE.mono k3.size)
 obtain ⟨s0,s1⟩:=cells2 (L1.below k4 L1.lt)
 have hgO:w.heap.size+1 < W3.heap.size:=jL L2.lt k3.size
 clear hT hO k3
 go_wp2_with fail
 clear s0 s1 vE
 generalize W3.alloc (.cells #[F (some ⟨gT,0,none⟩) x.t.length tc,F OA x.o.length oc,O U x.gt,O U x.sd,O U x.ms] 40)=W4 at vR k4 ⊢
 generalize W3.heap.size=gO at vR hgO ⊢
 refine (bh (x.c.at (some ⟨gT,0,none⟩) tc OA oc) gO st W4 (aC.at_ (y:=x.c) vR)).mono ?_
 rintro e W5 ⟨rfl,hb5⟩
 have vW:=vR.then hb5
 have k5:=k4.trans (hb5.mono k4.size)
 rw [show ax (x.c.at (some ⟨gT,0,none⟩) tc OA oc).t st=ax x.t st from rfl,hI]
 have xj:=L1.below k5 L1.lt
 have yj:=hA.then k5 k5.size
 have Bl:∀ (fn:Fn) (first cap:Array Value) (w:World),(Instr.makeFunc fn first cap).run vx w=.ok (.func fn first cap) w:=fun _ _ _ _=>rfl
 go_wp2_with fail
 refine (dH (B:=0) xj yj G (Nat.zero_le _)).mono ?_
 rintro e W6 ⟨rfl,wk⟩
 have vL:=vW.then wk
 have k6:=k5.trans (wk.mono k5.size)
 have xS:=L1.below k6 L1.lt
 obtain ⟨s0,s1,s2,s3⟩:=cells4 xS
 clear xj yj vW vR hb5 wk k4
 generalize aN st 0 x.o=N at *
 obtain ⟨Ap,Aq⟩:=zP
 have c0:=vL.lies.cell 0
 simp only [List.getElem?_cons_zero] at c0
 have d3:W6.cell? ⟨gO,3,none⟩=some (O U x.sd):=vL.lies.cell 3
 have d4:W6.cell? ⟨gO,4,none⟩=some (O U x.ms):=vL.lies.cell 4
 have d3f:=vL.lies.frozen 3
 have d4f:=vL.lies.frozen 4
 have hneO : ¬ gO=w.heap.size:=oM
 have hneO' : ¬ w.heap.size=gO:=oM
 have FH:=G.s
 have FI:=G.m
 have wW:=G.g
 obtain ⟨FJ,FK⟩:=FH
 obtain ⟨FL,FM⟩:=FI
 obtain ⟨CD,CE⟩:=wW
 have Iu:=(vL.setN (x.sd+va)).2.1
 have k7:=k6.trans (vL.belowN 3 (O U (x.sd+va)))
 obtain ⟨Iv,kt0,ct0,cf0⟩:=aC.setT' (y:=x.c) vL hi tr xD 0
 obtain ⟨v,hv⟩ : ∃ v,(N == 0)=v:=⟨_,rfl⟩
 clear Iv kt0 ct0 cf0
 cases v
 all_goals
  go_wp2
  generalize W6.setCell ⟨gO,3,none⟩ (O U (x.sd+va))=W7 at Iu k7 ⊢
  obtain ⟨wY,kt,ct,cf⟩:=aC.setT' (y:=⟨x.t,x.o,x.gt,x.sd+va,x.ms⟩) (Iu.then jB.drew) hi tr xD (tr.c - va)
  have kd:=k7.drew
  have xI:=L1.below kd L1.lt
  have u1:=xI.cell 1
  have u2:=xI.cell 2
  have u3:=xI.cell 3
  simp only [gz0,gz1] at u1 u2 u3
  go_still_tail 9,kZ
  change wpList _ _ _ _ _ W7.drew
  generalize W7.drew=Wd at wY kt ct cf kd xI u1 u2 u3 ⊢
  have k8:=kd.trans kt
  have hneT : ¬ gT=w.heap.size:=fun e=>by have:=(wY.t.lt gT rfl).1; have:=L1.lt; omega
  have hneT' : ¬ w.heap.size=gT:=fun e=>hneT e.symm
  go_wp2_with fail
  generalize Wd.setCell ⟨gT,i * 2+1,none⟩ (O U (tr.c - va))=W8 at wY k8 ⊢
  replace vU:∃ vt vo,aC W8 W2.heap.size gO vt vo r:=⟨_,_,by rw [hr]; exact wY⟩
  obtain ⟨vt,vo,vU⟩:=vU
  clear hr wY Iu vL c0 ct cf u1 u2 u3 s0 s1 s2 s3 xS xI kt kd k7 k6 k5
  obtain ⟨A1,a1,A2,a2,rfl,rfl⟩:=vU.form
  have cV:=aZ (r.at A1 a1 A2 a2) gO W8 (aC.at_ (y:=r) vU)
  rw [Oc.good_at] at cV
  cases hg:r.good
  ·rw [hg] at cV
   have HN:Hid (bf x.c ⟨4,st,0,va⟩=none):=by unfold Hid; rw [HR.out,Oc.fin,hg]; rfl
   clear hg
   go_wp2_with fail
   refine cV.mono ?_
   rintro e W9 ⟨rfl,hb9⟩
   have k9:=k8.trans (hb9.mono k8.size)
   clear hb9 cV
   have vK:=L2.below k9 L2.lt
   have z0:=vK.cell 0
   have z1:=vK.cell 1
   have z2:=vK.cell 2
   have z3:=vK.cell 3
   have z4:=vK.cell 4
   obtain ⟨f0,f1,f2,f3,f4⟩:=frz5 vK
   simp only [gz0,gz1] at z0 z1 z2 z3 z4
   have vO:=ab (g:=w.heap.size+1) (i:=4) (u:=O U 0) (gw4 W9 (w.heap.size+1) (F none 0 0) (F none 0 0) (O U 0) (O U 0))
   have bw:=b2.trans (k9.mono b2.size)
   have bz:=bw.grown vO bw.size (by rintro _ ⟨⟩; omega)
   go_wp2
   rw [HN.out]
   refine bodyPost_ret (v:=.tuple #[.agg #[F none 0 0,F none 0 0,O U 0,O U 0,O U 0],.bool false]) (by simp [results,Tryz.results186,go_sem, *]) rfl (aE.no rfl bz)
  ·rw [hg] at cV
   have HN:Hid (bf x.c ⟨4,st,0,va⟩=some r):=by unfold Hid; rw [HR.out,Oc.fin,hg]; rfl
   clear hg
   go_wp2_with fail
   refine cV.mono ?_
   rintro e W9 ⟨rfl,hb9⟩
   have k9:=k8.trans (hb9.mono k8.size)
   have wB:=vU.then hb9
   clear hb9 cV vU
   obtain ⟨c0,c1,c2,c3,c4⟩:=cells5 wB.lies
   have vK:=L2.below k9 L2.lt
   have z0:=vK.cell 0
   have z1:=vK.cell 1
   have z2:=vK.cell 2
   have z3:=vK.cell 3
   have z4:=vK.cell 4
   obtain ⟨f0,f1,f2,f3,f4⟩:=frz5 vK
   simp only [gz0,gz1] at z0 z1 z2 z3 z4
   have vO:=ab (g:=w.heap.size+1) (i:=4) (u:=O U r.ms) (gw4 W9 (w.heap.size+1) (F A1 r.t.length a1) (F A2 r.o.length a2) (O U r.gt) (O U r.sd))
   have bw:=b2.trans (k9.mono b2.size)
   have bz:=bw.grown vO bw.size (by rintro _ ⟨⟩; omega)
   have r8:=ai (ak wB.t vK fk vO) b2.size
   have r9:=ai (ak wB.o vK eV vO) b2.size
   have R8:=jZ r8; clear r8
   have R9:=jZ r9; clear r9
   clear vO wB
   go_wp2
   rw [HN.out]
   refine bodyPost_ret (v:=.tuple #[.agg #[F A1 r.t.length a1,F A2 r.o.length a2,O U r.gt,O U r.sd,O U r.ms],.bool true]) (by simp [results,Tryz.results186,go_sem, *]) rfl ?_
   exact aE.yes rfl R8.out R9.out bz
end Go.Proofs.YtoeoimhemojdeaaGreatDoor
