/- Lemmas. -/
import Derived.Test.YtoeoimhemojdeaaGreatDoorFs14

set_option linter.unusedVariables false
set_option linter.unusedSimpArgs false
set_option maxHeartbeats 8000000
open Go.Value renaming int → O, slice → F, string → wG
open Go.IntKind renaming i64 → U
open Go.Proofs.Tryz renaming prog → wH

namespace Go.Proofs.YtoeoimhemojdeaaGreatDoor
open Go.RowKit
set_option maxRecDepth 100000 in
theorem uB (x:aO) (g:Nat) (st pe va:Int) (w:World) (h:cw w w.heap.size g x) (G:bK x) (i:Nat) (hi:i < x.t.length) (hI:ay x.t st=i) (ya:1≤pe∧pe≤999) (zv:aP st pe x.o ≠ 0) :
  Calls wH 186 #[.pointer (some ⟨g,0,none⟩),.agg #[O U 5,O U st,O U pe,O U va]] w (aF w (bj x.c ⟨5,st,pe,va⟩)):=by
 obtain ⟨r,hr⟩ : ∃ r:Oc,r=⟨x.t,eW st pe (-aP st pe x.o) x.o,x.gt,x.sd,x.ms+aP st pe x.o⟩:=⟨_,rfl⟩
 have HR:Hid (bj x.c ⟨5,st,pe,va⟩=Oc.fin r):=by
  unfold Hid bj
  rw [if_neg sP]
  rw [if_neg (by show ¬ ¬ 0≤ay x.t st; rw [hI]; omega)]
  rw [if_neg sP]
  rw [if_neg (by show ¬ (aP st pe x.o=0∧0 < pe); omega)]
  rw [if_neg sP]
  rw [if_neg sP]
  rw [if_pos rfl]
  rw [hr]
  rfl
 have Be:=G.at_bd st pe
 have zB:=G.asc
 have Ds:=G.oc
 have yC:(0:Int)≤(i:Int):=oM
 obtain ⟨Ee,Ef⟩:=ya
 have L1:=(ai.new w 112 #[O U 5,O U st,O U pe,O U va]).alloc (.cells #[F none 0 0,F none 0 0,O U 0,O U 0,O U 0] 40)
 have L2:=ai.new1 w (.cells #[O U 5,O U st,O U pe,O U va] 112) 40 #[F none 0 0,F none 0 0,O U 0,O U 0,O U 0]
 have b1:=bZ w (.cells #[O U 5,O U st,O U pe,O U va] 112)
 have b2:=b1.alloc b1.size (.cells #[F none 0 0,F none 0 0,O U 0,O U 0,O U 0] 40)
 have hA:=h.then b2 b2.size
 have tl:=G.tl
 have ol:=G.ol
 clear b1
 go_enter Tryz.func186,Tryz.ntmps186
 go_wp2_with fail
 generalize ((w.alloc (.cells #[O U 5,O U st,O U pe,O U va] 112)).alloc (.cells #[F none 0 0,F none 0 0,O U 0,O U 0,O U 0] 40))=W2 at L1 L2 b2 hA ⊢
 refine (cy x g W2 hA oM oM).mono ?_
 rintro e W3 ⟨TA,tc,OA,oc,rfl,hT,hO,k3⟩
 obtain ⟨gT,cT,_,BF,_,_,_⟩:=ch hT oM
 injection BF with e1 e2 e3
 subst e1; subst e3
 have wO:=(Below.refl W3.heap.size W3).alloc nR (.cells #[F (some ⟨gT,0,none⟩) x.t.length tc,F OA x.o.length oc,O U x.gt,O U x.sd,O U x.ms] 40)
 have xe:aE (W3.alloc (.cells #[F (some ⟨gT,0,none⟩) x.t.length tc,F OA x.o.length oc,O U x.gt,O U x.sd,O U x.ms] 40)) W2.heap.size W3.heap.size _ _ x.c:=⟨ai.new W3 40 #[F (some ⟨gT,0,none⟩) x.t.length tc,F OA x.o.length oc,O U x.gt,O U x.sd,O U x.ms],k3.size,ac hT wO,ac hO wO⟩
 have k4:=k3.trans (wO.mono k3.size)
 obtain ⟨s0,s1⟩:=cells2 (L1.below k4 L1.lt)
 have hgO:w.heap.size+1 < W3.heap.size:=jL L2.lt k3.size
 clear hT hO k3
 go_wp2_with fail
 clear s0 s1 wO
 generalize W3.alloc (.cells #[F (some ⟨gT,0,none⟩) x.t.length tc,F OA x.o.length oc,O U x.gt,O U x.sd,O U x.ms] 40)=W4 at xe k4 ⊢
 generalize W3.heap.size=gO at xe hgO ⊢
 refine (bp (x.c.at (some ⟨gT,0,none⟩) tc OA oc) gO st W4 (aE.at_ (y:=x.c) xe)).mono ?_
 rintro e W5 ⟨rfl,hb5⟩
 have xk:=xe.then hb5
 have k5:=k4.trans (hb5.mono k4.size)
 rw [show ay (x.c.at (some ⟨gT,0,none⟩) tc OA oc).t st=ay x.t st from rfl,hI]
 have yo:=L1.below k5 L1.lt
 have zr:=hA.then k5 k5.size
 have CJ:∀ (fn:Fn) (first cap:Array Value) (w:World),(Instr.makeFunc fn first cap).run wH w=.ok (.func fn first cap) w:=fun _ _ _ _=>rfl
 go_wp2_with fail
 refine (dO (B:=0) yo zr G (Nat.zero_le _)).mono ?_
 rintro e W6 ⟨rfl,xn⟩
 have wW:=xk.then xn
 have k6:=k5.trans (xn.mono k5.size)
 have yZ:=L1.below k6 L1.lt
 obtain ⟨s0,s1,s2,s3⟩:=cells4 yZ
 clear yo zr xk xe hb5 xn k4
 generalize aP st pe x.o=N at *
 obtain ⟨BH,BI⟩:=Be
 have c0:=wW.lies.cell 0
 simp only [List.getElem?_cons_zero] at c0
 have yK:(N == 0)=false:=by simp; omega
 have d3:W6.cell? ⟨gO,3,none⟩=some (O U x.sd):=wW.lies.cell 3
 have d4:W6.cell? ⟨gO,4,none⟩=some (O U x.ms):=wW.lies.cell 4
 have d3f:=wW.lies.frozen 3
 have d4f:=wW.lies.frozen 4
 have hneO : ¬ gO=w.heap.size:=oM
 have hneO' : ¬ w.heap.size=gO:=oM
 have Ha:=G.s
 have Hb:=G.m
 have yb:=G.g
 obtain ⟨Hc,Hd⟩:=Ha
 obtain ⟨He,Hf⟩:=Hb
 obtain ⟨Ec,Ed⟩:=yb
 have ye:=(wW.setN (x.ms+N)).2.2
 have k7:=k6.trans (wW.belowN 4 (O U (x.ms+N)))
 go_wp2_with fail
 generalize W6.setCell ⟨gO,4,none⟩ (O U (x.ms+N))=W7 at ye k7 ⊢
 have cC:=gA W2.heap.size gO _ _ ⟨x.t,x.o,x.gt,x.sd,x.ms+N⟩ st pe (-N) W7 ye k7.size (by exact zB) (by show x.o.length≤100000; omega) (by exact Ds) oM
 refine cC.mono ?_
 rintro e W8 ⟨vo',rfl,xi,wL⟩
 have k8:=k7.trans wL
 clear wL cC
 replace xi:∃ vt,aE W8 W2.heap.size gO vt vo' r:=⟨_,by rw [hr]; exact xi⟩
 obtain ⟨vt,xi⟩:=xi
 clear hr
 clear ye wW c0 d3 d4 d3f d4f s0 s1 s2 s3 yZ k7 k6 k5
 obtain ⟨A1,a1,A2,a2,rfl,rfl⟩:=xi.form
 have cV:=bc (r.at A1 a1 A2 a2) gO W8 (aE.at_ (y:=r) xi)
 rw [Oc.good_at] at cV
 cases hg:r.good
 ·rw [hg] at cV
  have HN:Hid (bj x.c ⟨5,st,pe,va⟩=none):=by unfold Hid; rw [HR.out,Oc.fin,hg]; rfl
  clear hg
  go_wp2_with fail
  refine cV.mono ?_
  rintro e W9 ⟨rfl,hb9⟩
  have k9:=k8.trans (hb9.mono k8.size)
  clear hb9 cV
  have wU:=L2.below k9 L2.lt
  have z0:=wU.cell 0
  have z1:=wU.cell 1
  have z2:=wU.cell 2
  have z3:=wU.cell 3
  have z4:=wU.cell 4
  obtain ⟨f0,f1,f2,f3,f4⟩:=frz5 wU
  simp only [gz0,gz1] at z0 z1 z2 z3 z4
  have wY:=ab (g:=w.heap.size+1) (i:=4) (u:=O U 0) (gw4 W9 (w.heap.size+1) (F none 0 0) (F none 0 0) (O U 0) (O U 0))
  have bw:=b2.trans (k9.mono b2.size)
  have bz:=bw.grown wY bw.size (by rintro _ ⟨⟩; omega)
  go_wp2
  rw [HN.out]
  refine bodyPost_ret (v:=.tuple #[.agg #[F none 0 0,F none 0 0,O U 0,O U 0,O U 0],.bool false]) (by simp [results,Tryz.results186,go_sem, *]) rfl (aF.no rfl bz)
 ·rw [hg] at cV
  have HN:Hid (bj x.c ⟨5,st,pe,va⟩=some r):=by unfold Hid; rw [HR.out,Oc.fin,hg]; rfl
  clear hg
  go_wp2_with fail
  refine cV.mono ?_
  rintro e W9 ⟨rfl,hb9⟩
  have k9:=k8.trans (hb9.mono k8.size)
  have xM:=xi.then hb9
  clear hb9 cV xi
  obtain ⟨c0,c1,c2,c3,c4⟩:=cells5 xM.lies
  have wU:=L2.below k9 L2.lt
  have z0:=wU.cell 0
  have z1:=wU.cell 1
  have z2:=wU.cell 2
  have z3:=wU.cell 3
  have z4:=wU.cell 4
  obtain ⟨f0,f1,f2,f3,f4⟩:=frz5 wU
  simp only [gz0,gz1] at z0 z1 z2 z3 z4
  have wY:=ab (g:=w.heap.size+1) (i:=4) (u:=O U r.ms) (gw4 W9 (w.heap.size+1) (F A1 r.t.length a1) (F A2 r.o.length a2) (O U r.gt) (O U r.sd))
  have bw:=b2.trans (k9.mono b2.size)
  have bz:=bw.grown wY bw.size (by rintro _ ⟨⟩; omega)
  have r8:=ah (ak xM.t wU fz wY) b2.size
  have r9:=ah (ak xM.o wU fg wY) b2.size
  have R8:=jZ r8; clear r8
  have R9:=jZ r9; clear r9
  clear wY xM
  go_wp2
  rw [HN.out]
  refine bodyPost_ret (v:=.tuple #[.agg #[F A1 r.t.length a1,F A2 r.o.length a2,O U r.gt,O U r.sd,O U r.ms],.bool true]) (by simp [results,Tryz.results186,go_sem, *]) rfl ?_
  exact aF.yes rfl R8.out R9.out bz
end Go.Proofs.YtoeoimhemojdeaaGreatDoor
