/- Rl13: the texts StepSell0 StepMiss StepSell StepBack StepShow StepNon StepZ, joined into one file. -/
import Derived.Test.YtoeoimhemojdeaaGreatDoorRl12

set_option linter.unusedVariables false
open Go.Value renaming int → O, slice → F, string → sQ
open Go.IntKind renaming i64 → U

namespace Go.Proofs.YtoeoimhemojdeaaGreatDoor
open Go.RowKit
set_option maxRecDepth 100000 in
set_option maxHeartbeats 1500000 in
theorem pV (x:aM) (g:Nat) (st pe va:Int) (w:World) (h:bT w w.heap.size g x) (G:bn x) (i:Nat) (hi:i < x.t.length) (hI:av x.t st=i) (hpe:pe=0) (hva:1≤va∧va≤9999) :
  Calls Tryz.prog 186 #[.pointer (some ⟨g,0,none⟩),.agg #[O U 4,O U st,O U pe,O U va]] w (aC w (aZ x.c ⟨4,st,pe,va⟩)):=by
 subst hpe
 obtain ⟨tr,htr⟩ : ∃ tr,x.c.t[i]=tr:=⟨_,rfl⟩
 obtain ⟨r,hr⟩ : ∃ r:Oc,r=⟨x.t.set i ⟨tr.k,tr.c - va⟩,x.o,x.got,x.sold+va,x.missed⟩:=⟨_,rfl⟩
 have HR:Hid (aZ x.c ⟨4,st,0,va⟩=Oc.fin r):=by
  unfold Hid aZ
  rw [if_neg (by simp)]
  rw [if_neg (by show ¬ ¬ 0≤av x.t st; rw [hI]; omega)]
  rw [if_neg (by simp)]
  rw [if_neg (by show ¬ (aJ st 0 x.o=0∧(0:Int) < 0); omega)]
  rw [if_neg (by simp)]
  rw [if_pos rfl,if_pos rfl]
  rw [show ah x.c.t st (-va)=x.t.set i ⟨tr.k,tr.c - va⟩ from by show ah x.t st _=_; rw [f8 hI hi,show x.t[i]=tr from htr,← Int.sub_eq_add_neg]]
  rw [hr]
  rfl
 have hNb:=G.at_bd st 0
 have hasc:=G.asc
 have hoc:=G.oc
 have hz0:(0:Int)≤(i:Int):=by omega
 have htb:=(aq.bounds (G.tall i hi)).2
 rw [show x.t[i]=tr from htr] at htb
 obtain ⟨htb1,htb2⟩:=htb
 obtain ⟨hva1,hva2⟩:=hva
 have L1:=(ai.new w 112 #[O U 4,O U st,O U 0,O U va]).alloc (.cells #[F none 0 0,F none 0 0,O U 0,O U 0,O U 0] 40)
 have L2:=ai.new1 w (.cells #[O U 4,O U st,O U 0,O U va] 112) 40 #[F none 0 0,F none 0 0,O U 0,O U 0,O U 0]
 have b1:=(Below.refl w.heap.size w).alloc (Nat.le_refl _) (.cells #[O U 4,O U st,O U 0,O U va] 112)
 have b2:=b1.alloc b1.size (.cells #[F none 0 0,F none 0 0,O U 0,O U 0,O U 0] 40)
 have hA:=h.then b2 b2.size
 have tl:=G.tl
 have ol:=G.ol
 clear b1
 go_enter Tryz.func186,Tryz.ntmps186
 go_wp2_with fail
 generalize ((w.alloc (.cells #[O U 4,O U st,O U 0,O U va] 112)).alloc (.cells #[F none 0 0,F none 0 0,O U 0,O U 0,O U 0] 40))=W2 at L1 L2 b2 hA ⊢
 refine (bO x g W2 hA (by omega) (by omega)).mono ?_
 rintro e W3 ⟨TA,tc,OA,oc,rfl,hT,hO,k3⟩
 obtain ⟨gT,cT,_,hvt,_,_,_⟩:=bJ hT (by omega)
 injection hvt with e1 e2 e3
 subst e1; subst e3
 have hal:=(Below.refl W3.heap.size W3).alloc (Nat.le_refl _) (.cells #[F (some ⟨gT,0,none⟩) x.t.length tc,F OA x.o.length oc,O U x.got,O U x.sold,O U x.missed] 40)
 have hOwn:aA (W3.alloc (.cells #[F (some ⟨gT,0,none⟩) x.t.length tc,F OA x.o.length oc,O U x.got,O U x.sold,O U x.missed] 40)) W2.heap.size W3.heap.size _ _ x.c:=⟨ai.new W3 40 #[F (some ⟨gT,0,none⟩) x.t.length tc,F OA x.o.length oc,O U x.got,O U x.sold,O U x.missed],k3.size,ab hT hal,ab hO hal⟩
 have k4:=k3.trans (hal.mono k3.size)
 have s0:=(L1.below k4 L1.lt).cell 0
 have s1:=(L1.below k4 L1.lt).cell 1
 simp only [List.getElem?_cons_zero,List.getElem?_cons_succ] at s0 s1
 have hgO:w.heap.size+1 < W3.heap.size:=Nat.lt_of_lt_of_le L2.lt k3.size
 clear hT hO k3
 go_wp2_with fail
 clear s0 s1 hal
 generalize W3.alloc (.cells #[F (some ⟨gT,0,none⟩) x.t.length tc,F OA x.o.length oc,O U x.got,O U x.sold,O U x.missed] 40)=W4 at hOwn k4 ⊢
 generalize W3.heap.size=gO at hOwn hgO ⊢
 refine (ba (x.c.at (some ⟨gT,0,none⟩) tc OA oc) gO st W4 (aA.at_ (y:=x.c) hOwn)).mono ?_
 rintro e W5 ⟨rfl,hb5⟩
 have hOwn5:=hOwn.then hb5
 have k5:=k4.trans (hb5.mono k4.size)
 rw [show av (x.c.at (some ⟨gT,0,none⟩) tc OA oc).t st=av x.t st from rfl,hI]
 have L1c:=L1.below k5 L1.lt
 have hA5:=hA.then k5 k5.size
 have hmf:∀ (fn:Fn) (first cap:Array Value) (w:World),(Instr.makeFunc fn first cap).run Tryz.prog w=.ok (.func fn first cap) w:=fun _ _ _ _=>rfl
 go_wp2_with fail
 refine (cK (B:=0) L1c hA5 G (Nat.zero_le _)).mono ?_
 rintro e W6 ⟨rfl,hb6⟩
 have hOwn6:=hOwn5.then hb6
 have k6:=k5.trans (hb6.mono k5.size)
 have L1d:=L1.below k6 L1.lt
 obtain ⟨s0,s1,s2,s3⟩:=cells4 L1d
 clear L1c hA5 hOwn5 hOwn hb5 hb6 k4
 generalize aJ st 0 x.o=N at *
 obtain ⟨hNb1,hNb2⟩:=hNb
 have c0:=hOwn6.lies.cell 0
 simp only [List.getElem?_cons_zero] at c0
 have d3:W6.cell? ⟨gO,3,none⟩=some (O U x.sold):=hOwn6.lies.cell 3
 have d4:W6.cell? ⟨gO,4,none⟩=some (O U x.missed):=hOwn6.lies.cell 4
 have d3f:=hOwn6.lies.frozen 3
 have d4f:=hOwn6.lies.frozen 4
 have hneO : ¬ gO=w.heap.size:=by omega
 have hneO' : ¬ w.heap.size=gO:=by omega
 have hgs:=G.s
 have hgm:=G.m
 have hgg:=G.g
 obtain ⟨hgs1,hgs2⟩:=hgs
 obtain ⟨hgm1,hgm2⟩:=hgm
 obtain ⟨hgg1,hgg2⟩:=hgg
 have hOs:=(hOwn6.setN (x.sold+va)).2.1
 have k7:=k6.trans (hOwn6.belowN 3 (O U (x.sold+va)))
 obtain ⟨hOt0,kt0,ct0,cf0⟩:=aA.setT' (y:=x.c) hOwn6 hi tr htr 0
 obtain ⟨v,hv⟩ : ∃ v,(N == 0)=v:=⟨_,rfl⟩
 clear hOt0 kt0 ct0 cf0
 cases v
 all_goals
  go_wp2
  generalize W6.setCell ⟨gO,3,none⟩ (O U (x.sold+va))=W7 at hOs k7 ⊢
  obtain ⟨hOt,kt,ct,cf⟩:=aA.setT' (y:=⟨x.t,x.o,x.got,x.sold+va,x.missed⟩) (hOs.then (Below.refl _ _).drew) hi tr htr (tr.c - va)
  have kd:=k7.drew
  have L1e:=L1.below kd L1.lt
  have u1:=L1e.cell 1
  have u2:=L1e.cell 2
  have u3:=L1e.cell 3
  simp only [List.getElem?_cons_zero,List.getElem?_cons_succ] at u1 u2 u3
  go_still_tail 9,(by kernel_rfl)
  change wpList _ _ _ _ _ W7.drew
  generalize W7.drew=Wd at hOt kt ct cf kd L1e u1 u2 u3 ⊢
  have k8:=kd.trans kt
  have hneT : ¬ gT=w.heap.size:=fun e=>by have:=(hOt.t.lt gT rfl).1; have:=L1.lt; omega
  have hneT' : ¬ w.heap.size=gT:=fun e=>hneT e.symm
  go_wp2_with fail
  generalize Wd.setCell ⟨gT,i * 2+1,none⟩ (O U (tr.c - va))=W8 at hOt k8 ⊢
  replace hO8:∃ vt vo,aA W8 W2.heap.size gO vt vo r:=⟨_,_,by rw [hr]; exact hOt⟩
  obtain ⟨vt,vo,hO8⟩:=hO8
  clear hr hOt hOs hOwn6 c0 ct cf u1 u2 u3 s0 s1 s2 s3 L1d L1e kt kd k7 k6 k5
  obtain ⟨A1,a1,A2,a2,rfl,rfl⟩:=hO8.form
  have cV:=aX (r.at A1 a1 A2 a2) gO W8 (aA.at_ (y:=r) hO8)
  rw [Oc.good_at] at cV
  cases hg:r.good
  ·rw [hg] at cV
   have HN:Hid (aZ x.c ⟨4,st,0,va⟩=none):=by unfold Hid; rw [HR.out,Oc.fin,hg]; rfl
   clear hg
   go_wp2_with fail
   refine cV.mono ?_
   rintro e W9 ⟨rfl,hb9⟩
   have k9:=k8.trans (hb9.mono k8.size)
   clear hb9 cV
   have L2z:=L2.below k9 L2.lt
   have z0:=L2z.cell 0
   have z1:=L2z.cell 1
   have z2:=L2z.cell 2
   have z3:=L2z.cell 3
   have z4:=L2z.cell 4
   obtain ⟨f0,f1,f2,f3,f4⟩:=frz5 L2z
   simp only [List.getElem?_cons_zero,List.getElem?_cons_succ] at z0 z1 z2 z3 z4
   have hgr:=ac (g:=w.heap.size+1) (i:=4) (u:=O U 0) (ac (g:=w.heap.size+1) (i:=3) (u:=O U 0) (ac (g:=w.heap.size+1) (i:=2) (u:=O U 0) (ac (g:=w.heap.size+1) (i:=1) (u:=F none 0 0) (ac (g:=w.heap.size+1) (i:=0) (u:=F none 0 0) (World.grownBy.refl W9 (some (w.heap.size+1)))))))
   have bw:=b2.trans (k9.mono b2.size)
   have bz:=bw.grown hgr bw.size (by rintro _ ⟨⟩; omega)
   go_wp2
   rw [HN.out]
   refine bodyPost_ret (v:=.tuple #[.agg #[F none 0 0,F none 0 0,O U 0,O U 0,O U 0],.bool false]) (by simp [results,Tryz.results186,go_sem, *]) rfl (aC.no rfl bz)
  ·rw [hg] at cV
   have HN:Hid (aZ x.c ⟨4,st,0,va⟩=some r):=by unfold Hid; rw [HR.out,Oc.fin,hg]; rfl
   clear hg
   go_wp2_with fail
   refine cV.mono ?_
   rintro e W9 ⟨rfl,hb9⟩
   have k9:=k8.trans (hb9.mono k8.size)
   have hO9:=hO8.then hb9
   clear hb9 cV hO8
   obtain ⟨c0,c1,c2,c3,c4⟩:=cells5 hO9.lies
   have L2z:=L2.below k9 L2.lt
   have z0:=L2z.cell 0
   have z1:=L2z.cell 1
   have z2:=L2z.cell 2
   have z3:=L2z.cell 3
   have z4:=L2z.cell 4
   obtain ⟨f0,f1,f2,f3,f4⟩:=frz5 L2z
   simp only [List.getElem?_cons_zero,List.getElem?_cons_succ] at z0 z1 z2 z3 z4
   have hgr:=ac (g:=w.heap.size+1) (i:=4) (u:=O U r.missed) (ac (g:=w.heap.size+1) (i:=3) (u:=O U r.sold) (ac (g:=w.heap.size+1) (i:=2) (u:=O U r.got) (ac (g:=w.heap.size+1) (i:=1) (u:=F A2 r.o.length a2) (ac (g:=w.heap.size+1) (i:=0) (u:=F A1 r.t.length a1) (World.grownBy.refl W9 (some (w.heap.size+1)))))))
   have bw:=b2.trans (k9.mono b2.size)
   have bz:=bw.grown hgr bw.size (by rintro _ ⟨⟩; omega)
   have r8:=af (aj hO9.t L2z ez hgr) b2.size
   have r9:=af (aj hO9.o L2z dY hgr) b2.size
   have R8:=Lib.hid r8; clear r8
   have R9:=Lib.hid r9; clear r9
   clear hgr hO9
   go_wp2
   rw [HN.out]
   refine bodyPost_ret (v:=.tuple #[.agg #[F A1 r.t.length a1,F A2 r.o.length a2,O U r.got,O U r.sold,O U r.missed],.bool true]) (by simp [results,Tryz.results186,go_sem, *]) rfl ?_
   exact aC.yes rfl R8.out R9.out bz
set_option maxRecDepth 100000 in
set_option maxHeartbeats 1500000 in
theorem rk (x:aM) (g:Nat) (st pe va:Int) (w:World) (h:bT w w.heap.size g x) (G:bn x) (i:Nat) (hi:i < x.t.length) (hI:av x.t st=i) (hpe:1≤pe∧pe≤999) (hn1:aJ st pe x.o ≠ 0) :
  Calls Tryz.prog 186 #[.pointer (some ⟨g,0,none⟩),.agg #[O U 5,O U st,O U pe,O U va]] w (aC w (aZ x.c ⟨5,st,pe,va⟩)):=by
 obtain ⟨r,hr⟩ : ∃ r:Oc,r=⟨x.t,dM st pe (-aJ st pe x.o) x.o,x.got,x.sold,x.missed+aJ st pe x.o⟩:=⟨_,rfl⟩
 have HR:Hid (aZ x.c ⟨5,st,pe,va⟩=Oc.fin r):=by
  unfold Hid aZ
  rw [if_neg (by simp)]
  rw [if_neg (by show ¬ ¬ 0≤av x.t st; rw [hI]; omega)]
  rw [if_neg (by simp)]
  rw [if_neg (by show ¬ (aJ st pe x.o=0∧0 < pe); omega)]
  rw [if_neg (by simp)]
  rw [if_neg (by simp)]
  rw [if_pos rfl]
  rw [hr]
  rfl
 have hNb:=G.at_bd st pe
 have hasc:=G.asc
 have hoc:=G.oc
 have hz0:(0:Int)≤(i:Int):=by omega
 obtain ⟨hpe1,hpe2⟩:=hpe
 have L1:=(ai.new w 112 #[O U 5,O U st,O U pe,O U va]).alloc (.cells #[F none 0 0,F none 0 0,O U 0,O U 0,O U 0] 40)
 have L2:=ai.new1 w (.cells #[O U 5,O U st,O U pe,O U va] 112) 40 #[F none 0 0,F none 0 0,O U 0,O U 0,O U 0]
 have b1:=(Below.refl w.heap.size w).alloc (Nat.le_refl _) (.cells #[O U 5,O U st,O U pe,O U va] 112)
 have b2:=b1.alloc b1.size (.cells #[F none 0 0,F none 0 0,O U 0,O U 0,O U 0] 40)
 have hA:=h.then b2 b2.size
 have tl:=G.tl
 have ol:=G.ol
 clear b1
 go_enter Tryz.func186,Tryz.ntmps186
 go_wp2_with fail
 generalize ((w.alloc (.cells #[O U 5,O U st,O U pe,O U va] 112)).alloc (.cells #[F none 0 0,F none 0 0,O U 0,O U 0,O U 0] 40))=W2 at L1 L2 b2 hA ⊢
 refine (bO x g W2 hA (by omega) (by omega)).mono ?_
 rintro e W3 ⟨TA,tc,OA,oc,rfl,hT,hO,k3⟩
 obtain ⟨gT,cT,_,hvt,_,_,_⟩:=bJ hT (by omega)
 injection hvt with e1 e2 e3
 subst e1; subst e3
 have hal:=(Below.refl W3.heap.size W3).alloc (Nat.le_refl _) (.cells #[F (some ⟨gT,0,none⟩) x.t.length tc,F OA x.o.length oc,O U x.got,O U x.sold,O U x.missed] 40)
 have hOwn:aA (W3.alloc (.cells #[F (some ⟨gT,0,none⟩) x.t.length tc,F OA x.o.length oc,O U x.got,O U x.sold,O U x.missed] 40)) W2.heap.size W3.heap.size _ _ x.c:=⟨ai.new W3 40 #[F (some ⟨gT,0,none⟩) x.t.length tc,F OA x.o.length oc,O U x.got,O U x.sold,O U x.missed],k3.size,ab hT hal,ab hO hal⟩
 have k4:=k3.trans (hal.mono k3.size)
 have s0:=(L1.below k4 L1.lt).cell 0
 have s1:=(L1.below k4 L1.lt).cell 1
 simp only [List.getElem?_cons_zero,List.getElem?_cons_succ] at s0 s1
 have hgO:w.heap.size+1 < W3.heap.size:=Nat.lt_of_lt_of_le L2.lt k3.size
 clear hT hO k3
 go_wp2_with fail
 clear s0 s1 hal
 generalize W3.alloc (.cells #[F (some ⟨gT,0,none⟩) x.t.length tc,F OA x.o.length oc,O U x.got,O U x.sold,O U x.missed] 40)=W4 at hOwn k4 ⊢
 generalize W3.heap.size=gO at hOwn hgO ⊢
 refine (ba (x.c.at (some ⟨gT,0,none⟩) tc OA oc) gO st W4 (aA.at_ (y:=x.c) hOwn)).mono ?_
 rintro e W5 ⟨rfl,hb5⟩
 have hOwn5:=hOwn.then hb5
 have k5:=k4.trans (hb5.mono k4.size)
 rw [show av (x.c.at (some ⟨gT,0,none⟩) tc OA oc).t st=av x.t st from rfl,hI]
 have L1c:=L1.below k5 L1.lt
 have hA5:=hA.then k5 k5.size
 have hmf:∀ (fn:Fn) (first cap:Array Value) (w:World),(Instr.makeFunc fn first cap).run Tryz.prog w=.ok (.func fn first cap) w:=fun _ _ _ _=>rfl
 go_wp2_with fail
 refine (cK (B:=0) L1c hA5 G (Nat.zero_le _)).mono ?_
 rintro e W6 ⟨rfl,hb6⟩
 have hOwn6:=hOwn5.then hb6
 have k6:=k5.trans (hb6.mono k5.size)
 have L1d:=L1.below k6 L1.lt
 obtain ⟨s0,s1,s2,s3⟩:=cells4 L1d
 clear L1c hA5 hOwn5 hOwn hb5 hb6 k4
 generalize aJ st pe x.o=N at *
 obtain ⟨hNb1,hNb2⟩:=hNb
 have c0:=hOwn6.lies.cell 0
 simp only [List.getElem?_cons_zero] at c0
 have hn0:(N == 0)=false:=by simp; omega
 have d3:W6.cell? ⟨gO,3,none⟩=some (O U x.sold):=hOwn6.lies.cell 3
 have d4:W6.cell? ⟨gO,4,none⟩=some (O U x.missed):=hOwn6.lies.cell 4
 have d3f:=hOwn6.lies.frozen 3
 have d4f:=hOwn6.lies.frozen 4
 have hneO : ¬ gO=w.heap.size:=by omega
 have hneO' : ¬ w.heap.size=gO:=by omega
 have hgs:=G.s
 have hgm:=G.m
 have hgg:=G.g
 obtain ⟨hgs1,hgs2⟩:=hgs
 obtain ⟨hgm1,hgm2⟩:=hgm
 obtain ⟨hgg1,hgg2⟩:=hgg
 have hOt:=(hOwn6.setN (x.missed+N)).2.2
 have k7:=k6.trans (hOwn6.belowN 4 (O U (x.missed+N)))
 go_wp2_with fail
 generalize W6.setCell ⟨gO,4,none⟩ (O U (x.missed+N))=W7 at hOt k7 ⊢
 have cC:=fk W2.heap.size gO _ _ ⟨x.t,x.o,x.got,x.sold,x.missed+N⟩ st pe (-N) W7 hOt k7.size (by exact hasc) (by show x.o.length≤100000; omega) (by exact hoc) (by omega)
 refine cC.mono ?_
 rintro e W8 ⟨vo',rfl,hO8,hb8⟩
 have k8:=k7.trans hb8
 clear hb8 cC
 replace hO8:∃ vt,aA W8 W2.heap.size gO vt vo' r:=⟨_,by rw [hr]; exact hO8⟩
 obtain ⟨vt,hO8⟩:=hO8
 clear hr
 clear hOt hOwn6 c0 d3 d4 d3f d4f s0 s1 s2 s3 L1d k7 k6 k5
 obtain ⟨A1,a1,A2,a2,rfl,rfl⟩:=hO8.form
 have cV:=aX (r.at A1 a1 A2 a2) gO W8 (aA.at_ (y:=r) hO8)
 rw [Oc.good_at] at cV
 cases hg:r.good
 ·rw [hg] at cV
  have HN:Hid (aZ x.c ⟨5,st,pe,va⟩=none):=by unfold Hid; rw [HR.out,Oc.fin,hg]; rfl
  clear hg
  go_wp2_with fail
  refine cV.mono ?_
  rintro e W9 ⟨rfl,hb9⟩
  have k9:=k8.trans (hb9.mono k8.size)
  clear hb9 cV
  have L2z:=L2.below k9 L2.lt
  have z0:=L2z.cell 0
  have z1:=L2z.cell 1
  have z2:=L2z.cell 2
  have z3:=L2z.cell 3
  have z4:=L2z.cell 4
  obtain ⟨f0,f1,f2,f3,f4⟩:=frz5 L2z
  simp only [List.getElem?_cons_zero,List.getElem?_cons_succ] at z0 z1 z2 z3 z4
  have hgr:=ac (g:=w.heap.size+1) (i:=4) (u:=O U 0) (ac (g:=w.heap.size+1) (i:=3) (u:=O U 0) (ac (g:=w.heap.size+1) (i:=2) (u:=O U 0) (ac (g:=w.heap.size+1) (i:=1) (u:=F none 0 0) (ac (g:=w.heap.size+1) (i:=0) (u:=F none 0 0) (World.grownBy.refl W9 (some (w.heap.size+1)))))))
  have bw:=b2.trans (k9.mono b2.size)
  have bz:=bw.grown hgr bw.size (by rintro _ ⟨⟩; omega)
  go_wp2
  rw [HN.out]
  refine bodyPost_ret (v:=.tuple #[.agg #[F none 0 0,F none 0 0,O U 0,O U 0,O U 0],.bool false]) (by simp [results,Tryz.results186,go_sem, *]) rfl (aC.no rfl bz)
 ·rw [hg] at cV
  have HN:Hid (aZ x.c ⟨5,st,pe,va⟩=some r):=by unfold Hid; rw [HR.out,Oc.fin,hg]; rfl
  clear hg
  go_wp2_with fail
  refine cV.mono ?_
  rintro e W9 ⟨rfl,hb9⟩
  have k9:=k8.trans (hb9.mono k8.size)
  have hO9:=hO8.then hb9
  clear hb9 cV hO8
  obtain ⟨c0,c1,c2,c3,c4⟩:=cells5 hO9.lies
  have L2z:=L2.below k9 L2.lt
  have z0:=L2z.cell 0
  have z1:=L2z.cell 1
  have z2:=L2z.cell 2
  have z3:=L2z.cell 3
  have z4:=L2z.cell 4
  obtain ⟨f0,f1,f2,f3,f4⟩:=frz5 L2z
  simp only [List.getElem?_cons_zero,List.getElem?_cons_succ] at z0 z1 z2 z3 z4
  have hgr:=ac (g:=w.heap.size+1) (i:=4) (u:=O U r.missed) (ac (g:=w.heap.size+1) (i:=3) (u:=O U r.sold) (ac (g:=w.heap.size+1) (i:=2) (u:=O U r.got) (ac (g:=w.heap.size+1) (i:=1) (u:=F A2 r.o.length a2) (ac (g:=w.heap.size+1) (i:=0) (u:=F A1 r.t.length a1) (World.grownBy.refl W9 (some (w.heap.size+1)))))))
  have bw:=b2.trans (k9.mono b2.size)
  have bz:=bw.grown hgr bw.size (by rintro _ ⟨⟩; omega)
  have r8:=af (aj hO9.t L2z ez hgr) b2.size
  have r9:=af (aj hO9.o L2z dY hgr) b2.size
  have R8:=Lib.hid r8; clear r8
  have R9:=Lib.hid r9; clear r9
  clear hgr hO9
  go_wp2
  rw [HN.out]
  refine bodyPost_ret (v:=.tuple #[.agg #[F A1 r.t.length a1,F A2 r.o.length a2,O U r.got,O U r.sold,O U r.missed],.bool true]) (by simp [results,Tryz.results186,go_sem, *]) rfl ?_
  exact aC.yes rfl R8.out R9.out bz
set_option maxRecDepth 100000 in
set_option maxHeartbeats 1500000 in
theorem rl (x:aM) (g:Nat) (st pe va:Int) (w:World) (h:bT w w.heap.size g x) (G:bn x) (i:Nat) (hi:i < x.t.length) (hI:av x.t st=i) (hpe:1≤pe∧pe≤999) (hva:1≤va∧va≤9999) (hn1:aJ st pe x.o ≠ 0) :
  Calls Tryz.prog 186 #[.pointer (some ⟨g,0,none⟩),.agg #[O U 4,O U st,O U pe,O U va]] w (aC w (aZ x.c ⟨4,st,pe,va⟩)):=by
 obtain ⟨r,hr⟩ : ∃ r:Oc,r=⟨x.t,dM st pe (-va) x.o,x.got,x.sold+va,x.missed⟩:=⟨_,rfl⟩
 have HR:Hid (aZ x.c ⟨4,st,pe,va⟩=Oc.fin r):=by
  unfold Hid aZ
  rw [if_neg (by simp)]
  rw [if_neg (by show ¬ ¬ 0≤av x.t st; rw [hI]; omega)]
  rw [if_neg (by simp)]
  rw [if_neg (by show ¬ (aJ st pe x.o=0∧0 < pe); omega)]
  rw [if_neg (by simp)]
  rw [if_pos rfl,if_neg (by show ¬ pe=0; omega)]
  rw [hr]
  rfl
 have hNb:=G.at_bd st pe
 have hasc:=G.asc
 have hoc:=G.oc
 have hz0:(0:Int)≤(i:Int):=by omega
 obtain ⟨hpe1,hpe2⟩:=hpe
 obtain ⟨hva1,hva2⟩:=hva
 have hp0:(pe == 0)=false:=by simp; omega
 have L1:=(ai.new w 112 #[O U 4,O U st,O U pe,O U va]).alloc (.cells #[F none 0 0,F none 0 0,O U 0,O U 0,O U 0] 40)
 have L2:=ai.new1 w (.cells #[O U 4,O U st,O U pe,O U va] 112) 40 #[F none 0 0,F none 0 0,O U 0,O U 0,O U 0]
 have b1:=(Below.refl w.heap.size w).alloc (Nat.le_refl _) (.cells #[O U 4,O U st,O U pe,O U va] 112)
 have b2:=b1.alloc b1.size (.cells #[F none 0 0,F none 0 0,O U 0,O U 0,O U 0] 40)
 have hA:=h.then b2 b2.size
 have tl:=G.tl
 have ol:=G.ol
 clear b1
 go_enter Tryz.func186,Tryz.ntmps186
 go_wp2_with fail
 generalize ((w.alloc (.cells #[O U 4,O U st,O U pe,O U va] 112)).alloc (.cells #[F none 0 0,F none 0 0,O U 0,O U 0,O U 0] 40))=W2 at L1 L2 b2 hA ⊢
 refine (bO x g W2 hA (by omega) (by omega)).mono ?_
 rintro e W3 ⟨TA,tc,OA,oc,rfl,hT,hO,k3⟩
 obtain ⟨gT,cT,_,hvt,_,_,_⟩:=bJ hT (by omega)
 injection hvt with e1 e2 e3
 subst e1; subst e3
 have hal:=(Below.refl W3.heap.size W3).alloc (Nat.le_refl _) (.cells #[F (some ⟨gT,0,none⟩) x.t.length tc,F OA x.o.length oc,O U x.got,O U x.sold,O U x.missed] 40)
 have hOwn:aA (W3.alloc (.cells #[F (some ⟨gT,0,none⟩) x.t.length tc,F OA x.o.length oc,O U x.got,O U x.sold,O U x.missed] 40)) W2.heap.size W3.heap.size _ _ x.c:=⟨ai.new W3 40 #[F (some ⟨gT,0,none⟩) x.t.length tc,F OA x.o.length oc,O U x.got,O U x.sold,O U x.missed],k3.size,ab hT hal,ab hO hal⟩
 have k4:=k3.trans (hal.mono k3.size)
 have s0:=(L1.below k4 L1.lt).cell 0
 have s1:=(L1.below k4 L1.lt).cell 1
 simp only [List.getElem?_cons_zero,List.getElem?_cons_succ] at s0 s1
 have hgO:w.heap.size+1 < W3.heap.size:=Nat.lt_of_lt_of_le L2.lt k3.size
 clear hT hO k3
 go_wp2_with fail
 clear s0 s1 hal
 generalize W3.alloc (.cells #[F (some ⟨gT,0,none⟩) x.t.length tc,F OA x.o.length oc,O U x.got,O U x.sold,O U x.missed] 40)=W4 at hOwn k4 ⊢
 generalize W3.heap.size=gO at hOwn hgO ⊢
 refine (ba (x.c.at (some ⟨gT,0,none⟩) tc OA oc) gO st W4 (aA.at_ (y:=x.c) hOwn)).mono ?_
 rintro e W5 ⟨rfl,hb5⟩
 have hOwn5:=hOwn.then hb5
 have k5:=k4.trans (hb5.mono k4.size)
 rw [show av (x.c.at (some ⟨gT,0,none⟩) tc OA oc).t st=av x.t st from rfl,hI]
 have L1c:=L1.below k5 L1.lt
 have hA5:=hA.then k5 k5.size
 have hmf:∀ (fn:Fn) (first cap:Array Value) (w:World),(Instr.makeFunc fn first cap).run Tryz.prog w=.ok (.func fn first cap) w:=fun _ _ _ _=>rfl
 go_wp2_with fail
 refine (cK (B:=0) L1c hA5 G (Nat.zero_le _)).mono ?_
 rintro e W6 ⟨rfl,hb6⟩
 have hOwn6:=hOwn5.then hb6
 have k6:=k5.trans (hb6.mono k5.size)
 have L1d:=L1.below k6 L1.lt
 obtain ⟨s0,s1,s2,s3⟩:=cells4 L1d
 clear L1c hA5 hOwn5 hOwn hb5 hb6 k4
 generalize aJ st pe x.o=N at *
 obtain ⟨hNb1,hNb2⟩:=hNb
 have c0:=hOwn6.lies.cell 0
 simp only [List.getElem?_cons_zero] at c0
 have hn0:(N == 0)=false:=by simp; omega
 have d3:W6.cell? ⟨gO,3,none⟩=some (O U x.sold):=hOwn6.lies.cell 3
 have d4:W6.cell? ⟨gO,4,none⟩=some (O U x.missed):=hOwn6.lies.cell 4
 have d3f:=hOwn6.lies.frozen 3
 have d4f:=hOwn6.lies.frozen 4
 have hneO : ¬ gO=w.heap.size:=by omega
 have hneO' : ¬ w.heap.size=gO:=by omega
 have hgs:=G.s
 have hgm:=G.m
 have hgg:=G.g
 obtain ⟨hgs1,hgs2⟩:=hgs
 obtain ⟨hgm1,hgm2⟩:=hgm
 obtain ⟨hgg1,hgg2⟩:=hgg
 have hOt:=(hOwn6.setN (x.sold+va)).2.1
 have k7:=k6.trans (hOwn6.belowN 3 (O U (x.sold+va)))
 go_wp2_with fail
 generalize W6.setCell ⟨gO,3,none⟩ (O U (x.sold+va))=W7 at hOt k7 ⊢
 have cC:=fk W2.heap.size gO _ _ ⟨x.t,x.o,x.got,x.sold+va,x.missed⟩ st pe (-va) W7 hOt k7.size (by exact hasc) (by show x.o.length≤100000; omega) (by exact hoc) (by omega)
 refine cC.mono ?_
 rintro e W8 ⟨vo',rfl,hO8,hb8⟩
 have k8:=k7.trans hb8
 clear hb8 cC
 replace hO8:∃ vt,aA W8 W2.heap.size gO vt vo' r:=⟨_,by rw [hr]; exact hO8⟩
 obtain ⟨vt,hO8⟩:=hO8
 clear hr
 clear hOt hOwn6 c0 d3 d4 d3f d4f s0 s1 s2 s3 L1d k7 k6 k5
 obtain ⟨A1,a1,A2,a2,rfl,rfl⟩:=hO8.form
 have cV:=aX (r.at A1 a1 A2 a2) gO W8 (aA.at_ (y:=r) hO8)
 rw [Oc.good_at] at cV
 cases hg:r.good
 ·rw [hg] at cV
  have HN:Hid (aZ x.c ⟨4,st,pe,va⟩=none):=by unfold Hid; rw [HR.out,Oc.fin,hg]; rfl
  clear hg
  go_wp2_with fail
  refine cV.mono ?_
  rintro e W9 ⟨rfl,hb9⟩
  have k9:=k8.trans (hb9.mono k8.size)
  clear hb9 cV
  have L2z:=L2.below k9 L2.lt
  have z0:=L2z.cell 0
  have z1:=L2z.cell 1
  have z2:=L2z.cell 2
  have z3:=L2z.cell 3
  have z4:=L2z.cell 4
  obtain ⟨f0,f1,f2,f3,f4⟩:=frz5 L2z
  simp only [List.getElem?_cons_zero,List.getElem?_cons_succ] at z0 z1 z2 z3 z4
  have hgr:=ac (g:=w.heap.size+1) (i:=4) (u:=O U 0) (ac (g:=w.heap.size+1) (i:=3) (u:=O U 0) (ac (g:=w.heap.size+1) (i:=2) (u:=O U 0) (ac (g:=w.heap.size+1) (i:=1) (u:=F none 0 0) (ac (g:=w.heap.size+1) (i:=0) (u:=F none 0 0) (World.grownBy.refl W9 (some (w.heap.size+1)))))))
  have bw:=b2.trans (k9.mono b2.size)
  have bz:=bw.grown hgr bw.size (by rintro _ ⟨⟩; omega)
  go_wp2
  rw [HN.out]
  refine bodyPost_ret (v:=.tuple #[.agg #[F none 0 0,F none 0 0,O U 0,O U 0,O U 0],.bool false]) (by simp [results,Tryz.results186,go_sem, *]) rfl (aC.no rfl bz)
 ·rw [hg] at cV
  have HN:Hid (aZ x.c ⟨4,st,pe,va⟩=some r):=by unfold Hid; rw [HR.out,Oc.fin,hg]; rfl
  clear hg
  go_wp2_with fail
  refine cV.mono ?_
  rintro e W9 ⟨rfl,hb9⟩
  have k9:=k8.trans (hb9.mono k8.size)
  have hO9:=hO8.then hb9
  clear hb9 cV hO8
  obtain ⟨c0,c1,c2,c3,c4⟩:=cells5 hO9.lies
  have L2z:=L2.below k9 L2.lt
  have z0:=L2z.cell 0
  have z1:=L2z.cell 1
  have z2:=L2z.cell 2
  have z3:=L2z.cell 3
  have z4:=L2z.cell 4
  obtain ⟨f0,f1,f2,f3,f4⟩:=frz5 L2z
  simp only [List.getElem?_cons_zero,List.getElem?_cons_succ] at z0 z1 z2 z3 z4
  have hgr:=ac (g:=w.heap.size+1) (i:=4) (u:=O U r.missed) (ac (g:=w.heap.size+1) (i:=3) (u:=O U r.sold) (ac (g:=w.heap.size+1) (i:=2) (u:=O U r.got) (ac (g:=w.heap.size+1) (i:=1) (u:=F A2 r.o.length a2) (ac (g:=w.heap.size+1) (i:=0) (u:=F A1 r.t.length a1) (World.grownBy.refl W9 (some (w.heap.size+1)))))))
  have bw:=b2.trans (k9.mono b2.size)
  have bz:=bw.grown hgr bw.size (by rintro _ ⟨⟩; omega)
  have r8:=af (aj hO9.t L2z ez hgr) b2.size
  have r9:=af (aj hO9.o L2z dY hgr) b2.size
  have R8:=Lib.hid r8; clear r8
  have R9:=Lib.hid r9; clear r9
  clear hgr hO9
  go_wp2
  rw [HN.out]
  refine bodyPost_ret (v:=.tuple #[.agg #[F A1 r.t.length a1,F A2 r.o.length a2,O U r.got,O U r.sold,O U r.missed],.bool true]) (by simp [results,Tryz.results186,go_sem, *]) rfl ?_
  exact aC.yes rfl R8.out R9.out bz
set_option maxRecDepth 100000 in
set_option maxHeartbeats 1500000 in
theorem rm (x:aM) (g:Nat) (st pe va:Int) (w:World) (h:bT w w.heap.size g x) (G:bn x) (i:Nat) (hi:i < x.t.length) (hI:av x.t st=i) (hpe:1≤pe∧pe≤999) (hva:1≤va∧va≤9999) (hn1:aJ st pe x.o ≠ 0) :
  Calls Tryz.prog 186 #[.pointer (some ⟨g,0,none⟩),.agg #[O U 3,O U st,O U pe,O U va]] w (aC w (aZ x.c ⟨3,st,pe,va⟩)):=by
 obtain ⟨tr,htr⟩ : ∃ tr,x.c.t[i]=tr:=⟨_,rfl⟩
 obtain ⟨r,hr⟩ : ∃ r:Oc,r=⟨x.t.set i ⟨tr.k,tr.c+va⟩,dM st pe (-va) x.o,x.got,x.sold,x.missed⟩:=⟨_,rfl⟩
 have HR:Hid (aZ x.c ⟨3,st,pe,va⟩=Oc.fin r):=by
  unfold Hid aZ
  rw [if_neg (by simp)]
  rw [if_neg (by show ¬ ¬ 0≤av x.t st; rw [hI]; omega)]
  rw [if_neg (by simp)]
  rw [if_neg (by show ¬ (aJ st pe x.o=0∧0 < pe); omega)]
  rw [if_pos rfl]
  rw [show ah x.c.t st (va)=x.t.set i ⟨tr.k,tr.c+va⟩ from by show ah x.t st _=_; rw [f8 hI hi,show x.t[i]=tr from htr]]
  rw [hr]
  rfl
 have hNb:=G.at_bd st pe
 have hasc:=G.asc
 have hoc:=G.oc
 have hz0:(0:Int)≤(i:Int):=by omega
 have htb:=(aq.bounds (G.tall i hi)).2
 rw [show x.t[i]=tr from htr] at htb
 obtain ⟨htb1,htb2⟩:=htb
 obtain ⟨hpe1,hpe2⟩:=hpe
 obtain ⟨hva1,hva2⟩:=hva
 have L1:=(ai.new w 112 #[O U 3,O U st,O U pe,O U va]).alloc (.cells #[F none 0 0,F none 0 0,O U 0,O U 0,O U 0] 40)
 have L2:=ai.new1 w (.cells #[O U 3,O U st,O U pe,O U va] 112) 40 #[F none 0 0,F none 0 0,O U 0,O U 0,O U 0]
 have b1:=(Below.refl w.heap.size w).alloc (Nat.le_refl _) (.cells #[O U 3,O U st,O U pe,O U va] 112)
 have b2:=b1.alloc b1.size (.cells #[F none 0 0,F none 0 0,O U 0,O U 0,O U 0] 40)
 have hA:=h.then b2 b2.size
 have tl:=G.tl
 have ol:=G.ol
 clear b1
 go_enter Tryz.func186,Tryz.ntmps186
 go_wp2_with fail
 generalize ((w.alloc (.cells #[O U 3,O U st,O U pe,O U va] 112)).alloc (.cells #[F none 0 0,F none 0 0,O U 0,O U 0,O U 0] 40))=W2 at L1 L2 b2 hA ⊢
 refine (bO x g W2 hA (by omega) (by omega)).mono ?_
 rintro e W3 ⟨TA,tc,OA,oc,rfl,hT,hO,k3⟩
 obtain ⟨gT,cT,_,hvt,_,_,_⟩:=bJ hT (by omega)
 injection hvt with e1 e2 e3
 subst e1; subst e3
 have hal:=(Below.refl W3.heap.size W3).alloc (Nat.le_refl _) (.cells #[F (some ⟨gT,0,none⟩) x.t.length tc,F OA x.o.length oc,O U x.got,O U x.sold,O U x.missed] 40)
 have hOwn:aA (W3.alloc (.cells #[F (some ⟨gT,0,none⟩) x.t.length tc,F OA x.o.length oc,O U x.got,O U x.sold,O U x.missed] 40)) W2.heap.size W3.heap.size _ _ x.c:=⟨ai.new W3 40 #[F (some ⟨gT,0,none⟩) x.t.length tc,F OA x.o.length oc,O U x.got,O U x.sold,O U x.missed],k3.size,ab hT hal,ab hO hal⟩
 have k4:=k3.trans (hal.mono k3.size)
 have s0:=(L1.below k4 L1.lt).cell 0
 have s1:=(L1.below k4 L1.lt).cell 1
 simp only [List.getElem?_cons_zero,List.getElem?_cons_succ] at s0 s1
 have hgO:w.heap.size+1 < W3.heap.size:=Nat.lt_of_lt_of_le L2.lt k3.size
 clear hT hO k3
 go_wp2_with fail
 clear s0 s1 hal
 generalize W3.alloc (.cells #[F (some ⟨gT,0,none⟩) x.t.length tc,F OA x.o.length oc,O U x.got,O U x.sold,O U x.missed] 40)=W4 at hOwn k4 ⊢
 generalize W3.heap.size=gO at hOwn hgO ⊢
 refine (ba (x.c.at (some ⟨gT,0,none⟩) tc OA oc) gO st W4 (aA.at_ (y:=x.c) hOwn)).mono ?_
 rintro e W5 ⟨rfl,hb5⟩
 have hOwn5:=hOwn.then hb5
 have k5:=k4.trans (hb5.mono k4.size)
 rw [show av (x.c.at (some ⟨gT,0,none⟩) tc OA oc).t st=av x.t st from rfl,hI]
 have L1c:=L1.below k5 L1.lt
 have hA5:=hA.then k5 k5.size
 have hmf:∀ (fn:Fn) (first cap:Array Value) (w:World),(Instr.makeFunc fn first cap).run Tryz.prog w=.ok (.func fn first cap) w:=fun _ _ _ _=>rfl
 go_wp2_with fail
 refine (cK (B:=0) L1c hA5 G (Nat.zero_le _)).mono ?_
 rintro e W6 ⟨rfl,hb6⟩
 have hOwn6:=hOwn5.then hb6
 have k6:=k5.trans (hb6.mono k5.size)
 have L1d:=L1.below k6 L1.lt
 obtain ⟨s0,s1,s2,s3⟩:=cells4 L1d
 clear L1c hA5 hOwn5 hOwn hb5 hb6 k4
 generalize aJ st pe x.o=N at *
 obtain ⟨hNb1,hNb2⟩:=hNb
 have c0:=hOwn6.lies.cell 0
 simp only [List.getElem?_cons_zero] at c0
 have hn0:(N == 0)=false:=by simp; omega
 go_wp2
 obtain ⟨hOt,kt,ct,cf⟩:=aA.setT' (y:=x.c) (hOwn6.then (Below.refl _ _).drew) hi tr htr (tr.c+va)
 have kd:=k6.drew
 have L1e:=L1.below kd L1.lt
 have u1:=L1e.cell 1
 have u2:=L1e.cell 2
 have u3:=L1e.cell 3
 simp only [List.getElem?_cons_zero,List.getElem?_cons_succ] at u1 u2 u3
 go_still_tail 9,(by kernel_rfl)
 change wpList _ _ _ _ _ W6.drew
 generalize W6.drew=Wd at hOt kt ct cf kd L1e u1 u2 u3 ⊢
 have k7:=kd.trans kt
 have hneT : ¬ gT=w.heap.size:=fun e=>by have:=(hOt.t.lt gT rfl).1; have:=L1.lt; omega
 have hneT' : ¬ w.heap.size=gT:=fun e=>hneT e.symm
 go_wp2_with fail
 generalize Wd.setCell ⟨gT,i * 2+1,none⟩ (O U (tr.c+va))=W7 at hOt k7 ⊢
 have cC:=fk W2.heap.size gO _ _ ⟨x.t.set i ⟨tr.k,tr.c+va⟩,x.o,x.got,x.sold,x.missed⟩ st pe (-va) W7 hOt k7.size (by exact hasc) (by show x.o.length≤100000; omega) (by exact hoc) (by omega)
 refine cC.mono ?_
 rintro e W8 ⟨vo',rfl,hO8,hb8⟩
 have k8:=k7.trans hb8
 clear hb8 cC
 replace hO8:∃ vt,aA W8 W2.heap.size gO vt vo' r:=⟨_,by rw [hr]; exact hO8⟩
 obtain ⟨vt,hO8⟩:=hO8
 clear hr
 clear hOt hOwn6 c0 ct cf u1 u2 u3 s0 s1 s2 s3 L1d L1e kt kd k7 k6 k5
 obtain ⟨A1,a1,A2,a2,rfl,rfl⟩:=hO8.form
 have cV:=aX (r.at A1 a1 A2 a2) gO W8 (aA.at_ (y:=r) hO8)
 rw [Oc.good_at] at cV
 cases hg:r.good
 ·rw [hg] at cV
  have HN:Hid (aZ x.c ⟨3,st,pe,va⟩=none):=by unfold Hid; rw [HR.out,Oc.fin,hg]; rfl
  clear hg
  go_wp2_with fail
  refine cV.mono ?_
  rintro e W9 ⟨rfl,hb9⟩
  have k9:=k8.trans (hb9.mono k8.size)
  clear hb9 cV
  have L2z:=L2.below k9 L2.lt
  have z0:=L2z.cell 0
  have z1:=L2z.cell 1
  have z2:=L2z.cell 2
  have z3:=L2z.cell 3
  have z4:=L2z.cell 4
  obtain ⟨f0,f1,f2,f3,f4⟩:=frz5 L2z
  simp only [List.getElem?_cons_zero,List.getElem?_cons_succ] at z0 z1 z2 z3 z4
  have hgr:=ac (g:=w.heap.size+1) (i:=4) (u:=O U 0) (ac (g:=w.heap.size+1) (i:=3) (u:=O U 0) (ac (g:=w.heap.size+1) (i:=2) (u:=O U 0) (ac (g:=w.heap.size+1) (i:=1) (u:=F none 0 0) (ac (g:=w.heap.size+1) (i:=0) (u:=F none 0 0) (World.grownBy.refl W9 (some (w.heap.size+1)))))))
  have bw:=b2.trans (k9.mono b2.size)
  have bz:=bw.grown hgr bw.size (by rintro _ ⟨⟩; omega)
  go_wp2
  rw [HN.out]
  refine bodyPost_ret (v:=.tuple #[.agg #[F none 0 0,F none 0 0,O U 0,O U 0,O U 0],.bool false]) (by simp [results,Tryz.results186,go_sem, *]) rfl (aC.no rfl bz)
 ·rw [hg] at cV
  have HN:Hid (aZ x.c ⟨3,st,pe,va⟩=some r):=by unfold Hid; rw [HR.out,Oc.fin,hg]; rfl
  clear hg
  go_wp2_with fail
  refine cV.mono ?_
  rintro e W9 ⟨rfl,hb9⟩
  have k9:=k8.trans (hb9.mono k8.size)
  have hO9:=hO8.then hb9
  clear hb9 cV hO8
  obtain ⟨c0,c1,c2,c3,c4⟩:=cells5 hO9.lies
  have L2z:=L2.below k9 L2.lt
  have z0:=L2z.cell 0
  have z1:=L2z.cell 1
  have z2:=L2z.cell 2
  have z3:=L2z.cell 3
  have z4:=L2z.cell 4
  obtain ⟨f0,f1,f2,f3,f4⟩:=frz5 L2z
  simp only [List.getElem?_cons_zero,List.getElem?_cons_succ] at z0 z1 z2 z3 z4
  have hgr:=ac (g:=w.heap.size+1) (i:=4) (u:=O U r.missed) (ac (g:=w.heap.size+1) (i:=3) (u:=O U r.sold) (ac (g:=w.heap.size+1) (i:=2) (u:=O U r.got) (ac (g:=w.heap.size+1) (i:=1) (u:=F A2 r.o.length a2) (ac (g:=w.heap.size+1) (i:=0) (u:=F A1 r.t.length a1) (World.grownBy.refl W9 (some (w.heap.size+1)))))))
  have bw:=b2.trans (k9.mono b2.size)
  have bz:=bw.grown hgr bw.size (by rintro _ ⟨⟩; omega)
  have r8:=af (aj hO9.t L2z ez hgr) b2.size
  have r9:=af (aj hO9.o L2z dY hgr) b2.size
  have R8:=Lib.hid r8; clear r8
  have R9:=Lib.hid r9; clear r9
  clear hgr hO9
  go_wp2
  rw [HN.out]
  refine bodyPost_ret (v:=.tuple #[.agg #[F A1 r.t.length a1,F A2 r.o.length a2,O U r.got,O U r.sold,O U r.missed],.bool true]) (by simp [results,Tryz.results186,go_sem, *]) rfl ?_
  exact aC.yes rfl R8.out R9.out bz
set_option maxRecDepth 100000 in
set_option maxHeartbeats 1500000 in
theorem rn (x:aM) (g:Nat) (st pe va:Int) (w:World) (h:bT w w.heap.size g x) (G:bn x) (i:Nat) (hi:i < x.t.length) (hI:av x.t st=i) (hpe:1≤pe∧pe≤999) (hva:1≤va∧va≤9999) :
  Calls Tryz.prog 186 #[.pointer (some ⟨g,0,none⟩),.agg #[O U 2,O U st,O U pe,O U va]] w (aC w (aZ x.c ⟨2,st,pe,va⟩)):=by
 obtain ⟨tr,htr⟩ : ∃ tr,x.c.t[i]=tr:=⟨_,rfl⟩
 obtain ⟨r,hr⟩ : ∃ r:Oc,r=⟨x.t.set i ⟨tr.k,tr.c - va⟩,dM st pe va x.o,x.got,x.sold,x.missed⟩:=⟨_,rfl⟩
 have HR:Hid (aZ x.c ⟨2,st,pe,va⟩=Oc.fin r):=by
  unfold Hid aZ
  rw [if_neg (by simp),if_neg (by show ¬ ¬ 0≤av x.t st; rw [hI]; omega),if_pos rfl,hr]
  show Oc.fin { x.c with t:=ah x.t st (-va),o:=dM st pe va x.o }=_
  rw [f8 hI hi,show x.t[i]=tr from htr,← Int.sub_eq_add_neg]
  rfl
 have hNb:=G.at_bd st pe
 have hasc:=G.asc
 have hoc:=G.oc
 have htb:=(aq.bounds (G.tall i hi)).2
 rw [show x.t[i]=tr from htr] at htb
 obtain ⟨hpe1,hpe2⟩:=hpe
 obtain ⟨hva1,hva2⟩:=hva
 obtain ⟨htb1,htb2⟩:=htb
 have hz0:(0:Int)≤(i:Int):=by omega
 have L1:=(ai.new w 112 #[O U 2,O U st,O U pe,O U va]).alloc (.cells #[F none 0 0,F none 0 0,O U 0,O U 0,O U 0] 40)
 have L2:=ai.new1 w (.cells #[O U 2,O U st,O U pe,O U va] 112) 40 #[F none 0 0,F none 0 0,O U 0,O U 0,O U 0]
 have b1:=(Below.refl w.heap.size w).alloc (Nat.le_refl _) (.cells #[O U 2,O U st,O U pe,O U va] 112)
 have b2:=b1.alloc b1.size (.cells #[F none 0 0,F none 0 0,O U 0,O U 0,O U 0] 40)
 have hA:=h.then b2 b2.size
 have tl:=G.tl
 have ol:=G.ol
 clear b1
 go_enter Tryz.func186,Tryz.ntmps186
 go_wp2_with fail
 generalize ((w.alloc (.cells #[O U 2,O U st,O U pe,O U va] 112)).alloc (.cells #[F none 0 0,F none 0 0,O U 0,O U 0,O U 0] 40))=W2 at L1 L2 b2 hA ⊢
 refine (bO x g W2 hA (by omega) (by omega)).mono ?_
 rintro e W3 ⟨TA,tc,OA,oc,rfl,hT,hO,k3⟩
 obtain ⟨gT,cT,_,hvt,_,_,_⟩:=bJ hT (by omega)
 injection hvt with e1 e2 e3
 subst e1; subst e3
 have hal:=(Below.refl W3.heap.size W3).alloc (Nat.le_refl _) (.cells #[F (some ⟨gT,0,none⟩) x.t.length tc,F OA x.o.length oc,O U x.got,O U x.sold,O U x.missed] 40)
 have hOwn:aA (W3.alloc (.cells #[F (some ⟨gT,0,none⟩) x.t.length tc,F OA x.o.length oc,O U x.got,O U x.sold,O U x.missed] 40)) W2.heap.size W3.heap.size _ _ x.c:=⟨ai.new W3 40 #[F (some ⟨gT,0,none⟩) x.t.length tc,F OA x.o.length oc,O U x.got,O U x.sold,O U x.missed],k3.size,ab hT hal,ab hO hal⟩
 have k4:=k3.trans (hal.mono k3.size)
 have s0:=(L1.below k4 L1.lt).cell 0
 have s1:=(L1.below k4 L1.lt).cell 1
 simp only [List.getElem?_cons_zero,List.getElem?_cons_succ] at s0 s1
 have hgO:w.heap.size+1 < W3.heap.size:=Nat.lt_of_lt_of_le L2.lt k3.size
 clear hT hO k3
 go_wp2_with fail
 clear s0 s1 hal
 generalize W3.alloc (.cells #[F (some ⟨gT,0,none⟩) x.t.length tc,F OA x.o.length oc,O U x.got,O U x.sold,O U x.missed] 40)=W4 at hOwn k4 ⊢
 generalize W3.heap.size=gO at hOwn hgO ⊢
 refine (ba (x.c.at (some ⟨gT,0,none⟩) tc OA oc) gO st W4 (aA.at_ (y:=x.c) hOwn)).mono ?_
 rintro e W5 ⟨rfl,hb5⟩
 have hOwn5:=hOwn.then hb5
 have k5:=k4.trans (hb5.mono k4.size)
 rw [show av (x.c.at (some ⟨gT,0,none⟩) tc OA oc).t st=av x.t st from rfl,hI]
 have L1c:=L1.below k5 L1.lt
 have hA5:=hA.then k5 k5.size
 have hmf:∀ (fn:Fn) (first cap:Array Value) (w:World),(Instr.makeFunc fn first cap).run Tryz.prog w=.ok (.func fn first cap) w:=fun _ _ _ _=>rfl
 go_wp2_with fail
 refine (cK (B:=0) L1c hA5 G (Nat.zero_le _)).mono ?_
 rintro e W6 ⟨rfl,hb6⟩
 have hOwn6:=hOwn5.then hb6
 have k6:=k5.trans (hb6.mono k5.size)
 have L1d:=L1.below k6 L1.lt
 obtain ⟨s0,s1,s2,s3⟩:=cells4 L1d
 clear L1c hA5 hOwn5 hOwn hb5 hb6 k4
 generalize aJ st pe x.o=N at hNb ⊢
 obtain ⟨hNb1,hNb2⟩:=hNb
 have c0:=hOwn6.lies.cell 0
 simp only [List.getElem?_cons_zero,List.getElem?_cons_succ] at c0
 obtain ⟨v,hv⟩ : ∃ v,(N == 0)=v:=⟨_,rfl⟩
 cases v
 all_goals
  go_wp2
  obtain ⟨hOt,kt,ct,cf⟩:=aA.setT' (y:=x.c) (hOwn6.then (Below.refl _ _).drew) hi tr htr (tr.c - va)
  have kd:=k6.drew
  have L1e:=L1.below kd L1.lt
  have u1:=L1e.cell 1
  have u2:=L1e.cell 2
  have u3:=L1e.cell 3
  simp only [List.getElem?_cons_zero,List.getElem?_cons_succ] at u1 u2 u3
  go_still_tail 9,(by kernel_rfl)
  change wpList _ _ _ _ _ W6.drew
  generalize W6.drew=Wd at hOt kt ct cf kd L1e u1 u2 u3 ⊢
  have k7:=kd.trans kt
  have hneT : ¬ gT=w.heap.size:=fun e=>by have:=(hOt.t.lt gT rfl).1; have:=L1.lt; omega
  have hneT' : ¬ w.heap.size=gT:=fun e=>hneT e.symm
  go_wp2_with fail
  generalize Wd.setCell ⟨gT,i * 2+1,none⟩ (O U (tr.c - va))=W7 at hOt k7 ⊢
  have cC:=fk W2.heap.size gO _ _ ⟨x.t.set i ⟨tr.k,tr.c - va⟩,x.o,x.got,x.sold,x.missed⟩ st pe (va) W7 hOt k7.size (by exact hasc) (by show x.o.length≤100000; omega) (by exact hoc) (by omega)
  refine cC.mono ?_
  rintro e W8 ⟨vo',rfl,hO8,hb8⟩
  have k8:=k7.trans hb8
  clear hb8 cC
  replace hO8:∃ vt,aA W8 W2.heap.size gO vt vo' r:=⟨_,by rw [hr]; exact hO8⟩
  obtain ⟨vt,hO8⟩:=hO8
  clear hr
  clear hOt hOwn6 c0 ct cf u1 u2 u3 s0 s1 s2 s3 L1d L1e kt kd k7 k6 k5
  obtain ⟨A1,a1,A2,a2,rfl,rfl⟩:=hO8.form
  have cV:=aX (r.at A1 a1 A2 a2) gO W8 (aA.at_ (y:=r) hO8)
  rw [Oc.good_at] at cV
  cases hg:r.good
  ·rw [hg] at cV
   have HN:Hid (aZ x.c ⟨2,st,pe,va⟩=none):=by unfold Hid; rw [HR.out,Oc.fin,hg]; rfl
   clear hg
   go_wp2_with fail
   refine cV.mono ?_
   rintro e W9 ⟨rfl,hb9⟩
   have k9:=k8.trans (hb9.mono k8.size)
   clear hb9 cV
   have L2z:=L2.below k9 L2.lt
   have z0:=L2z.cell 0
   have z1:=L2z.cell 1
   have z2:=L2z.cell 2
   have z3:=L2z.cell 3
   have z4:=L2z.cell 4
   obtain ⟨f0,f1,f2,f3,f4⟩:=frz5 L2z
   simp only [List.getElem?_cons_zero,List.getElem?_cons_succ] at z0 z1 z2 z3 z4
   have hgr:=ac (g:=w.heap.size+1) (i:=4) (u:=O U 0) (ac (g:=w.heap.size+1) (i:=3) (u:=O U 0) (ac (g:=w.heap.size+1) (i:=2) (u:=O U 0) (ac (g:=w.heap.size+1) (i:=1) (u:=F none 0 0) (ac (g:=w.heap.size+1) (i:=0) (u:=F none 0 0) (World.grownBy.refl W9 (some (w.heap.size+1)))))))
   have bw:=b2.trans (k9.mono b2.size)
   have bz:=bw.grown hgr bw.size (by rintro _ ⟨⟩; omega)
   go_wp2
   rw [HN.out]
   refine bodyPost_ret (v:=.tuple #[.agg #[F none 0 0,F none 0 0,O U 0,O U 0,O U 0],.bool false]) (by simp [results,Tryz.results186,go_sem, *]) rfl (aC.no rfl bz)
  ·rw [hg] at cV
   have HN:Hid (aZ x.c ⟨2,st,pe,va⟩=some r):=by unfold Hid; rw [HR.out,Oc.fin,hg]; rfl
   clear hg
   go_wp2_with fail
   refine cV.mono ?_
   rintro e W9 ⟨rfl,hb9⟩
   have k9:=k8.trans (hb9.mono k8.size)
   have hO9:=hO8.then hb9
   clear hb9 cV hO8
   obtain ⟨c0,c1,c2,c3,c4⟩:=cells5 hO9.lies
   have L2z:=L2.below k9 L2.lt
   have z0:=L2z.cell 0
   have z1:=L2z.cell 1
   have z2:=L2z.cell 2
   have z3:=L2z.cell 3
   have z4:=L2z.cell 4
   obtain ⟨f0,f1,f2,f3,f4⟩:=frz5 L2z
   simp only [List.getElem?_cons_zero,List.getElem?_cons_succ] at z0 z1 z2 z3 z4
   have hgr:=ac (g:=w.heap.size+1) (i:=4) (u:=O U r.missed) (ac (g:=w.heap.size+1) (i:=3) (u:=O U r.sold) (ac (g:=w.heap.size+1) (i:=2) (u:=O U r.got) (ac (g:=w.heap.size+1) (i:=1) (u:=F A2 r.o.length a2) (ac (g:=w.heap.size+1) (i:=0) (u:=F A1 r.t.length a1) (World.grownBy.refl W9 (some (w.heap.size+1)))))))
   have bw:=b2.trans (k9.mono b2.size)
   have bz:=bw.grown hgr bw.size (by rintro _ ⟨⟩; omega)
   have r8:=af (aj hO9.t L2z ez hgr) b2.size
   have r9:=af (aj hO9.o L2z dY hgr) b2.size
   have R8:=Lib.hid r8; clear r8
   have R9:=Lib.hid r9; clear r9
   clear hgr hO9
   go_wp2
   rw [HN.out]
   refine bodyPost_ret (v:=.tuple #[.agg #[F A1 r.t.length a1,F A2 r.o.length a2,O U r.got,O U r.sold,O U r.missed],.bool true]) (by simp [results,Tryz.results186,go_sem, *]) rfl ?_
   exact aC.yes rfl R8.out R9.out bz
set_option maxRecDepth 100000 in
set_option maxHeartbeats 1500000 in
theorem jZ (x:aM) (g:Nat) (kd:Int) (st pe va:Int) (w:World) (h:bT w w.heap.size g x) (G:bn x) (hk:(kd == 1)=false) (hk2:(kd != 2)=true) (i:Nat) (hi:i < x.t.length) (hI:av x.t st=i) (hpe:0 < pe) (h0:aJ st pe x.o=0) :
  Calls Tryz.prog 186 #[.pointer (some ⟨g,0,none⟩),.agg #[O U kd,O U st,O U pe,O U va]] w (aC w (aZ x.c ⟨kd,st,pe,va⟩)):=by
 have HN:Hid (aZ x.c ⟨kd,st,pe,va⟩=none):=by
  unfold Hid aZ
  rw [if_neg (by simpa using hk),if_neg (by show ¬ ¬ 0≤av x.t st; rw [hI]; omega),if_neg (by simpa using hk2),if_pos ⟨h0,hpe⟩]
 have hz0:(0:Int)≤(i:Int):=by omega
 have L1:=(ai.new w 112 #[O U kd,O U st,O U pe,O U va]).alloc (.cells #[F none 0 0,F none 0 0,O U 0,O U 0,O U 0] 40)
 have L2:=ai.new1 w (.cells #[O U kd,O U st,O U pe,O U va] 112) 40 #[F none 0 0,F none 0 0,O U 0,O U 0,O U 0]
 have b1:=(Below.refl w.heap.size w).alloc (Nat.le_refl _) (.cells #[O U kd,O U st,O U pe,O U va] 112)
 have b2:=b1.alloc b1.size (.cells #[F none 0 0,F none 0 0,O U 0,O U 0,O U 0] 40)
 have hA:=h.then b2 b2.size
 have tl:=G.tl
 have ol:=G.ol
 clear b1
 go_enter Tryz.func186,Tryz.ntmps186
 go_wp2_with fail
 generalize ((w.alloc (.cells #[O U kd,O U st,O U pe,O U va] 112)).alloc (.cells #[F none 0 0,F none 0 0,O U 0,O U 0,O U 0] 40))=W2 at L1 L2 b2 hA ⊢
 refine (bO x g W2 hA (by omega) (by omega)).mono ?_
 rintro e W3 ⟨TA,tc,OA,oc,rfl,hT,hO,k3⟩
 obtain ⟨gT,cT,_,hvt,_,_,_⟩:=bJ hT (by omega)
 injection hvt with e1 e2 e3
 subst e1; subst e3
 have hal:=(Below.refl W3.heap.size W3).alloc (Nat.le_refl _) (.cells #[F (some ⟨gT,0,none⟩) x.t.length tc,F OA x.o.length oc,O U x.got,O U x.sold,O U x.missed] 40)
 have hOwn:aA (W3.alloc (.cells #[F (some ⟨gT,0,none⟩) x.t.length tc,F OA x.o.length oc,O U x.got,O U x.sold,O U x.missed] 40)) W2.heap.size W3.heap.size _ _ x.c:=⟨ai.new W3 40 #[F (some ⟨gT,0,none⟩) x.t.length tc,F OA x.o.length oc,O U x.got,O U x.sold,O U x.missed],k3.size,ab hT hal,ab hO hal⟩
 have k4:=k3.trans (hal.mono k3.size)
 have s0:=(L1.below k4 L1.lt).cell 0
 have s1:=(L1.below k4 L1.lt).cell 1
 simp only [List.getElem?_cons_zero,List.getElem?_cons_succ] at s0 s1
 have hgO:w.heap.size+1 < W3.heap.size:=Nat.lt_of_lt_of_le L2.lt k3.size
 clear hT hO k3
 go_wp2_with fail
 clear s0 s1 hal
 generalize W3.alloc (.cells #[F (some ⟨gT,0,none⟩) x.t.length tc,F OA x.o.length oc,O U x.got,O U x.sold,O U x.missed] 40)=W4 at hOwn k4 ⊢
 generalize W3.heap.size=gO at hOwn hgO ⊢
 refine (ba (x.c.at (some ⟨gT,0,none⟩) tc OA oc) gO st W4 (aA.at_ (y:=x.c) hOwn)).mono ?_
 rintro e W5 ⟨rfl,hb5⟩
 have hOwn5:=hOwn.then hb5
 have k5:=k4.trans (hb5.mono k4.size)
 rw [show av (x.c.at (some ⟨gT,0,none⟩) tc OA oc).t st=av x.t st from rfl,hI]
 have L1c:=L1.below k5 L1.lt
 have hA5:=hA.then k5 k5.size
 have hmf:∀ (fn:Fn) (first cap:Array Value) (w:World),(Instr.makeFunc fn first cap).run Tryz.prog w=.ok (.func fn first cap) w:=fun _ _ _ _=>rfl
 go_wp2_with fail
 refine (cK (B:=0) L1c hA5 G (Nat.zero_le _)).mono ?_
 rintro e W6 ⟨rfl,hb6⟩
 have hOwn6:=hOwn5.then hb6
 have k6:=k5.trans (hb6.mono k5.size)
 have L1d:=L1.below k6 L1.lt
 obtain ⟨s0,s1,s2,s3⟩:=cells4 L1d
 clear L1c hA5 hOwn5 hOwn hb5 hb6 k4
 rw [h0]
 clear h0
 have L2z:=L2.below k6 L2.lt
 have z0:=L2z.cell 0
 have z1:=L2z.cell 1
 have z2:=L2z.cell 2
 have z3:=L2z.cell 3
 have z4:=L2z.cell 4
 obtain ⟨f0,f1,f2,f3,f4⟩:=frz5 L2z
 simp only [List.getElem?_cons_zero,List.getElem?_cons_succ] at z0 z1 z2 z3 z4
 have hgr:=ac (g:=w.heap.size+1) (i:=4) (u:=O U 0) (ac (g:=w.heap.size+1) (i:=3) (u:=O U 0) (ac (g:=w.heap.size+1) (i:=2) (u:=O U 0) (ac (g:=w.heap.size+1) (i:=1) (u:=F none 0 0) (ac (g:=w.heap.size+1) (i:=0) (u:=F none 0 0) (World.grownBy.refl W6 (some (w.heap.size+1)))))))
 have bw:=b2.trans (k6.mono b2.size)
 have bz:=bw.grown hgr bw.size (by rintro _ ⟨⟩; omega)
 go_wp2
 rw [HN.out]
 refine bodyPost_ret (v:=.tuple #[.agg #[F none 0 0,F none 0 0,O U 0,O U 0,O U 0],.bool false]) (by simp [results,Tryz.results186,go_sem, *]) rfl (aC.no rfl bz)
theorem me (x:aM) (g:Nat) (s:dH) (w:World) (h:bT w w.heap.size g x) (G:bn x) (hs:s.ok=true) :
  Calls Tryz.prog 186 #[.pointer (some ⟨g,0,none⟩),s.val] w (aC w (aZ x.c s)):=by
 have hS:s.okS=true:=by rw [dH.ok_okS,Bool.and_eq_true] at hs; exact hs.1
 obtain ⟨hst,hI⟩:=dH.okS_is hS
 clear hS hs
 obtain ⟨kd,st,pe,va⟩:=s
 by_cases hT:av x.t st < 0
 ·cases hI with
  | get hk hp hv=>simp only at hk hp hv hst; subst hk; exact oU x g st pe va w h G hT hst hp hv
  | show_ hk hp hv=>simp only at hk; subst hk; exact eS x g 2 st pe va w h G rfl hT
  | back hk hp hv=>simp only at hk; subst hk; exact eS x g 3 st pe va w h G rfl hT
  | sell0 hk hp hv=>simp only at hk; subst hk; exact eS x g 4 st pe va w h G rfl hT
  | sell hk hp hv=>simp only at hk; subst hk; exact eS x g 4 st pe va w h G rfl hT
  | miss hk hp hv=>simp only at hk; subst hk; exact eS x g 5 st pe va w h G rfl hT
  | move hk hp hv=>simp only at hk; subst hk; exact eS x g 6 st pe va w h G rfl hT
 ·have h0:0≤av x.t st:=by omega
  have hi:=kc h0
  have hx:av x.t st=((av x.t st).toNat:Int):=by omega
  generalize (av x.t st).toNat=i at hi hx
  cases hI with
  | get hk hp hv=>simp only at hk hp hv; subst hk; exact oT x g st pe va w h G i hi hx hp hv
  | show_ hk hp hv=>simp only at hk hp hv; subst hk; exact rn x g st pe va w h G i hi hx hp hv
  | sell0 hk hp hv=>simp only at hk hp hv; subst hk; exact pV x g st pe va w h G i hi hx hp hv
  | back hk hp hv =>
   simp only at hk hp hv; subst hk
   by_cases hn:aJ st pe x.o=0
   ·exact jZ x g 3 st pe va w h G rfl rfl i hi hx (by omega) hn
   ·exact rm x g st pe va w h G i hi hx hp hv hn
  | sell hk hp hv =>
   simp only at hk hp hv; subst hk
   by_cases hn:aJ st pe x.o=0
   ·exact jZ x g 4 st pe va w h G rfl rfl i hi hx (by omega) hn
   ·exact rl x g st pe va w h G i hi hx hp hv hn
  | miss hk hp hv =>
   simp only at hk hp hv; subst hk
   by_cases hn:aJ st pe x.o=0
   ·exact jZ x g 5 st pe va w h G rfl rfl i hi hx (by omega) hn
   ·exact rk x g st pe va w h G i hi hx hp hn
  | move hk hp hv =>
   simp only at hk hp hv; subst hk
   by_cases hn:aJ st pe x.o=0
   ·exact jZ x g 6 st pe va w h G rfl rfl i hi hx (by omega) hn
   ·exact rj x g st pe va w h G i hi hx hp hv hn
set_option maxHeartbeats 2000000 in
theorem kE (s:dH) (w:World) :
  Calls Tryz.prog 185 #[s.val] w fun e w'=>e=.returned (.bool s.ok)∧Below w.heap.size w w':=by
 obtain ⟨kd,st,pe,va⟩:=s
 have b1:=(Below.refl w.heap.size w).alloc (Nat.le_refl _) (.cells #[O U kd,O U st,O U pe,O U va] 112)
 obtain ⟨ok,hok⟩ : ∃ ok,ok=dH.ok ⟨kd,st,pe,va⟩:=⟨_,rfl⟩
 rw [← hok]
 unfold dH.ok at hok
 simp only at hok
 have HO:=Lib.hid hok
 clear hok
 cases h1:bI st 1 99
 ·go_enter Tryz.func185,Tryz.ntmps185
  go_wp2_with (go_at_call 75; refine (aI _ _ _ _).mono ?_; rintro e w1 ⟨rfl,rfl⟩)
  go_ret
  exact ⟨by rw [HO.out,h1]; rfl,b1⟩
 ·by_cases k1:kd=1
  ·subst k1
   cases h2:(pe == 0)
   all_goals
    go_enter Tryz.func185,Tryz.ntmps185
    go_wp2_with (first | (go_at_call 75; refine (aI _ _ _ _).mono ?_; rintro e w1 ⟨rfl,rfl⟩) | (go_at_call 117; refine (bB _ _).mono ?_; rintro e w1 ⟨rfl,rfl⟩))
    go_ret
    exact ⟨by rw [HO.out]; simp_all <;> rfl,b1⟩
  ·by_cases k2:kd=2
   ·subst k2
    cases h2:bI pe 1 999
    all_goals
     go_enter Tryz.func185,Tryz.ntmps185
     go_wp2_with (first | (go_at_call 75; refine (aI _ _ _ _).mono ?_; rintro e w1 ⟨rfl,rfl⟩) | (go_at_call 117; refine (bB _ _).mono ?_; rintro e w1 ⟨rfl,rfl⟩))
     go_ret
     exact ⟨by rw [HO.out]; simp_all <;> rfl,b1⟩
   ·by_cases k3:kd=3
    ·subst k3
     cases h2:bI pe 1 999
     all_goals
      go_enter Tryz.func185,Tryz.ntmps185
      go_wp2_with (first | (go_at_call 75; refine (aI _ _ _ _).mono ?_; rintro e w1 ⟨rfl,rfl⟩) | (go_at_call 117; refine (bB _ _).mono ?_; rintro e w1 ⟨rfl,rfl⟩))
      go_ret
      exact ⟨by rw [HO.out]; simp_all <;> rfl,b1⟩
    ·by_cases k4:kd=4
     ·subst k4
      cases h2:bI pe 0 999
      all_goals
       go_enter Tryz.func185,Tryz.ntmps185
       go_wp2_with (first | (go_at_call 75; refine (aI _ _ _ _).mono ?_; rintro e w1 ⟨rfl,rfl⟩) | (go_at_call 117; refine (bB _ _).mono ?_; rintro e w1 ⟨rfl,rfl⟩))
       go_ret
       exact ⟨by rw [HO.out]; simp_all <;> rfl,b1⟩
     ·by_cases k5:kd=5
      ·subst k5
       cases h2:bI pe 1 999
       all_goals
        go_enter Tryz.func185,Tryz.ntmps185
        go_wp2_with (first | (go_at_call 75; refine (aI _ _ _ _).mono ?_; rintro e w1 ⟨rfl,rfl⟩) | (go_at_call 117; refine (bB _ _).mono ?_; rintro e w1 ⟨rfl,rfl⟩))
        go_ret
        exact ⟨by rw [HO.out]; simp_all <;> rfl,b1⟩
      ·by_cases k6:kd=6
       ·subst k6
        cases h2:bI pe 1 999
        all_goals cases h3:bI va 1 999
        all_goals cases h4:(va != pe)
        all_goals
         go_enter Tryz.func185,Tryz.ntmps185
         go_wp2_with (first | (go_at_call 75; refine (aI _ _ _ _).mono ?_; rintro e w1 ⟨rfl,rfl⟩) | (go_at_call 117; refine (bB _ _).mono ?_; rintro e w1 ⟨rfl,rfl⟩))
         go_ret
         exact ⟨by rw [HO.out]; simp_all <;> rfl,b1⟩
       ·have d1:(kd == 1)=false:=by simp [k1]
        have d2:(kd == 2)=false:=by simp [k2]
        have d3:(kd == 3)=false:=by simp [k3]
        have d4:(kd == 4)=false:=by simp [k4]
        have d5:(kd == 5)=false:=by simp [k5]
        have d6:(kd == 6)=false:=by simp [k6]
        go_enter Tryz.func185,Tryz.ntmps185
        go_wp2_with (first | (go_at_call 75; refine (aI _ _ _ _).mono ?_; rintro e w1 ⟨rfl,rfl⟩) | (go_at_call 117; refine (bB _ _).mono ?_; rintro e w1 ⟨rfl,rfl⟩))
        go_ret
        exact ⟨by rw [HO.out]; simp_all <;> rfl,b1⟩
theorem sD:147 ≠ 40:=by decide
theorem sE:104 ≠ 40:=by decide
set_option maxHeartbeats 2000000 in
theorem jx (x:aM) (s:dH) (w:World) (h:aQ w w.heap.size x) :
  Calls Tryz.prog 157 #[x.val,s.val] w (aC w (if am x && s.ok then aZ x.c s else none)):=by
 obtain ⟨kd,st,pe,va⟩:=s
 have L1:=((ai.new w 40 #[F x.TA x.t.length x.tc,F x.OA x.o.length x.oc,O U x.got,O U x.sold,O U x.missed]).alloc (.cells #[O U kd,O U st,O U pe,O U va] 112)).alloc (.cells #[F none 0 0,F none 0 0,O U 0,O U 0,O U 0] 40)
 have L2:=(ai.new1 w (.cells #[F x.TA x.t.length x.tc,F x.OA x.o.length x.oc,O U x.got,O U x.sold,O U x.missed] 40) 112 #[O U kd,O U st,O U pe,O U va]).alloc (.cells #[F none 0 0,F none 0 0,O U 0,O U 0,O U 0] 40)
 have L3:=ai.new2 w (.cells #[F x.TA x.t.length x.tc,F x.OA x.o.length x.oc,O U x.got,O U x.sold,O U x.missed] 40) (.cells #[O U kd,O U st,O U pe,O U va] 112) 40 #[F none 0 0,F none 0 0,O U 0,O U 0,O U 0]
 have b1:=(Below.refl w.heap.size w).alloc (Nat.le_refl _) (.cells #[F x.TA x.t.length x.tc,F x.OA x.o.length x.oc,O U x.got,O U x.sold,O U x.missed] 40)
 have b2:=b1.alloc b1.size (.cells #[O U kd,O U st,O U pe,O U va] 112)
 have b3:=b2.alloc b2.size (.cells #[F none 0 0,F none 0 0,O U 0,O U 0,O U 0] 40)
 clear b1 b2
 have cV:=fun W hW=>aX x w.heap.size W hW
 have cO:=fun W=>kE ⟨kd,st,pe,va⟩ W
 have cT:=fun (G:bn x) (hs:dH.ok ⟨kd,st,pe,va⟩=true) W hW=>me x w.heap.size ⟨kd,st,pe,va⟩ W hW G hs
 cases hg:am x
 ·have HN:Hid ((if am x && dH.ok ⟨kd,st,pe,va⟩ then aZ x.c ⟨kd,st,pe,va⟩ else none)=none):=by rw [Hid,hg]; rfl
  rw [hg] at cV
  rw [show (if false && dH.ok ⟨kd,st,pe,va⟩ then aZ x.c ⟨kd,st,pe,va⟩ else none)=none from rfl]
  clear hg HN cO cT
  go_enter Tryz.func157,Tryz.ntmps157
  go_wp2_with fail
  generalize (((w.alloc (.cells #[F x.TA x.t.length x.tc,F x.OA x.o.length x.oc,O U x.got,O U x.sold,O U x.missed] 40)).alloc (.cells #[O U kd,O U st,O U pe,O U va] 112)).alloc (.cells #[F none 0 0,F none 0 0,O U 0,O U 0,O U 0] 40))=W3 at L1 L2 L3 b3 ⊢
  have hA:=bT.of (x:=x) L1 (h.up b3 (Nat.le_refl _))
  refine (cV W3 hA).mono ?_
  rintro e W4 ⟨rfl,hb4⟩
  have k4:=b3.trans (hb4.mono b3.size)
  have L3z:=L3.below hb4 L3.lt
  have z0:=L3z.cell 0
  have z1:=L3z.cell 1
  have z2:=L3z.cell 2
  have z3:=L3z.cell 3
  have z4:=L3z.cell 4
  obtain ⟨f0,f1,f2,f3,f4⟩:=frz5 L3z
  simp only [List.getElem?_cons_zero,List.getElem?_cons_succ] at z0 z1 z2 z3 z4
  have hgr:=(ac (g:=w.heap.size+1+1) (i:=4) (u:=O U 0) (ac (g:=w.heap.size+1+1) (i:=3) (u:=O U 0) (ac (g:=w.heap.size+1+1) (i:=2) (u:=O U 0) (ac (g:=w.heap.size+1+1) (i:=1) (u:=F none 0 0) (ac (g:=w.heap.size+1+1) (i:=0) (u:=F none 0 0) (World.grownBy.refl W4 (some (w.heap.size+1+1))))))))
  have bz:=k4.grown hgr k4.size (by rintro _ ⟨⟩; omega)
  clear hgr
  go_wp2
  refine bodyPost_ret (v:=.tuple #[.agg #[F none 0 0,F none 0 0,O U 0,O U 0,O U 0],.bool false]) (by simp [results,Tryz.results157,go_sem, *]) rfl ?_
  exact aC.no rfl bz
 ·have G:=bm.1 hg
  rw [hg] at cV
  have cT:=cT G
  clear hg G
  cases hs:dH.ok ⟨kd,st,pe,va⟩
  ·rw [hs] at cO
   rw [show (if true && false then aZ x.c ⟨kd,st,pe,va⟩ else none)=none from rfl]
   clear hs cT
   go_enter Tryz.func157,Tryz.ntmps157
   go_wp2_with fail
   generalize (((w.alloc (.cells #[F x.TA x.t.length x.tc,F x.OA x.o.length x.oc,O U x.got,O U x.sold,O U x.missed] 40)).alloc (.cells #[O U kd,O U st,O U pe,O U va] 112)).alloc (.cells #[F none 0 0,F none 0 0,O U 0,O U 0,O U 0] 40))=W3 at L1 L2 L3 b3 ⊢
   have hA:=bT.of (x:=x) L1 (h.up b3 (Nat.le_refl _))
   refine (cV W3 hA).mono ?_
   rintro e W4 ⟨rfl,hb4⟩
   have L2y:=L2.below hb4 L2.lt
   obtain ⟨s0,s1,s2,s3⟩:=cells4 L2y
   go_wp2_with fail
   refine (cO W4).mono ?_
   rintro e W5 ⟨rfl,hb5⟩
   clear s0 s1 s2 s3
   have k5:=b3.trans ((ar hb4 hb5).mono b3.size)
   have L3z:=L3.below (ar hb4 hb5) L3.lt
   have z0:=L3z.cell 0
   have z1:=L3z.cell 1
   have z2:=L3z.cell 2
   have z3:=L3z.cell 3
   have z4:=L3z.cell 4
   obtain ⟨f0,f1,f2,f3,f4⟩:=frz5 L3z
   simp only [List.getElem?_cons_zero,List.getElem?_cons_succ] at z0 z1 z2 z3 z4
   have hgr:=(ac (g:=w.heap.size+1+1) (i:=4) (u:=O U 0) (ac (g:=w.heap.size+1+1) (i:=3) (u:=O U 0) (ac (g:=w.heap.size+1+1) (i:=2) (u:=O U 0) (ac (g:=w.heap.size+1+1) (i:=1) (u:=F none 0 0) (ac (g:=w.heap.size+1+1) (i:=0) (u:=F none 0 0) (World.grownBy.refl W5 (some (w.heap.size+1+1))))))))
   have bz:=k5.grown hgr k5.size (by rintro _ ⟨⟩; omega)
   clear hgr
   go_wp2
   refine bodyPost_ret (v:=.tuple #[.agg #[F none 0 0,F none 0 0,O U 0,O U 0,O U 0],.bool false]) (by simp [results,Tryz.results157,go_sem, *]) rfl ?_
   exact aC.no rfl bz
  ·have cT:=cT hs
   rw [hs] at cO
   rw [show (if true && true then aZ x.c ⟨kd,st,pe,va⟩ else none)=aZ x.c ⟨kd,st,pe,va⟩ from rfl]
   clear hs
   generalize aZ x.c ⟨kd,st,pe,va⟩=R at cT ⊢
   go_enter Tryz.func157,Tryz.ntmps157
   go_wp2_with fail
   generalize (((w.alloc (.cells #[F x.TA x.t.length x.tc,F x.OA x.o.length x.oc,O U x.got,O U x.sold,O U x.missed] 40)).alloc (.cells #[O U kd,O U st,O U pe,O U va] 112)).alloc (.cells #[F none 0 0,F none 0 0,O U 0,O U 0,O U 0] 40))=W3 at L1 L2 L3 b3 ⊢
   have hA:=bT.of (x:=x) L1 (h.up b3 (Nat.le_refl _))
   refine (cV W3 hA).mono ?_
   rintro e W4 ⟨rfl,hb4⟩
   have L2y:=L2.below hb4 L2.lt
   obtain ⟨s0,s1,s2,s3⟩:=cells4 L2y
   go_wp2_with fail
   refine (cO W4).mono ?_
   rintro e W5 ⟨rfl,hb5⟩
   clear s0 s1 s2 s3
   have L2y:=L2.below (ar hb4 hb5) L2.lt
   obtain ⟨s0,s1,s2,s3⟩:=cells4 L2y
   go_wp2_with fail
   refine (cT W5 (hA.then (ar hb4 hb5) (ar hb4 hb5).size)).mono ?_
   rintro e W6 ⟨TA,tc,OA,oc,rfl,hT,hO,hb6⟩
   clear s0 s1 s2 s3
   have k56:=ar (ar hb4 hb5) hb6
   have k6:=b3.trans (k56.mono b3.size)
   have L3z:=L3.below k56 L3.lt
   have s36:W3.heap.size≤W5.heap.size:=(ar hb4 hb5).size
   have z0:=L3z.cell 0
   have z1:=L3z.cell 1
   have z2:=L3z.cell 2
   have z3:=L3z.cell 3
   have z4:=L3z.cell 4
   obtain ⟨f0,f1,f2,f3,f4⟩:=frz5 L3z
   simp only [List.getElem?_cons_zero,List.getElem?_cons_succ] at z0 z1 z2 z3 z4
   obtain ⟨r,hr⟩ : ∃ r,cj R=r:=⟨_,rfl⟩
   obtain ⟨ok,hok⟩ : ∃ ok,R.isSome=ok:=⟨_,rfl⟩
   rw [hr] at hT hO ⊢
   rw [hok]
   have HR:=Lib.hid hr; clear hr
   have HK:=Lib.hid hok; clear hok
   have hgr:=(ac (g:=w.heap.size+1+1) (i:=4) (u:=O U r.missed) (ac (g:=w.heap.size+1+1) (i:=3) (u:=O U r.sold) (ac (g:=w.heap.size+1+1) (i:=2) (u:=O U r.got) (ac (g:=w.heap.size+1+1) (i:=1) (u:=F OA r.o.length oc) (ac (g:=w.heap.size+1+1) (i:=0) (u:=F TA r.t.length tc) (World.grownBy.refl W6 (some (w.heap.size+1+1))))))))
   have bz:=k6.grown hgr k6.size (by rintro _ ⟨⟩; omega)
   have r8:=af (aj hT L3z sE hgr) (Nat.le_trans b3.size s36)
   have r9:=af (aj hO L3z sD hgr) (Nat.le_trans b3.size s36)
   have R8:=Lib.hid r8; clear r8
   have R9:=Lib.hid r9; clear r9
   clear hgr hT hO
   go_wp2
   refine bodyPost_ret (v:=.tuple #[(r.at TA tc OA oc).val,.bool ok]) (by simp [results,Tryz.results157,go_sem, *]) rfl ?_
   unfold aC
   rw [HR.out,HK.out]
   exact ⟨TA,tc,OA,oc,rfl,R8.out,R9.out,bz⟩
end Go.Proofs.YtoeoimhemojdeaaGreatDoor
