/- Lemmas. -/
import Derived.Test.YtoeoimhemojdeaaGreatDoorFc15
import Derived.Test.YtoeoimhemojdeaaGreatDoorFc18

set_option linter.unusedVariables false
set_option linter.unusedSimpArgs false
set_option maxHeartbeats 8000000
open Go.Value renaming int → O, slice → F, string → vw
open Go.IntKind renaming i64 → U
open Go.Proofs.Tryz renaming prog → vx

namespace Go.Proofs.YtoeoimhemojdeaaGreatDoor
open Go.RowKit
def dp (w:World) (R:Oc × Bool) (e:Ending) (w' : World):Prop :=
 ∃ TA tc OA oc,e=.returned (.tuple #[.agg #[F TA R.1.t.length tc,F OA R.1.o.length oc,O U R.1.gt,O U R.1.sd,O U R.1.ms],.bool R.2])∧w'.ownsRow w.heap.size 104 2 (F TA R.1.t.length tc) R.1.t.length (R.1.t.flatMap aq.enc) ∧
  w'.ownsRow w.heap.size 147 3 (F OA R.1.o.length oc) R.1.o.length (R.1.o.flatMap ae.enc)∧Below w.heap.size w w'
set_option maxRecDepth 100000 in
theorem pX (hM:∀ (x:aO) (s:cU) (w:World),aP w w.heap.size x→bH x→x.t.length≤x.tc→s.okS=true→Calls vx 127 #[x.val,s.val] w (dp w (fS x.c s)))
  (x:aO) (s:cU) (w:World) (h:aP w w.heap.size x) (vM:x.t.length≤x.tc) :
  Calls vx 76 #[x.val,s.val] w (aE w (if an x && s.okS then pU (fS x.c s) else none)):=by
 obtain ⟨kd,st,pe,va⟩:=s
 have L1:=((ah.new w 40 #[F x.TA x.t.length x.tc,F x.OA x.o.length x.oc,O U x.gt,O U x.sd,O U x.ms]).alloc (.cells #[O U kd,O U st,O U pe,O U va] 112)).alloc (.cells #[F none 0 0,F none 0 0,O U 0,O U 0,O U 0] 40)
 have L2:=(ah.new1 w (.cells #[F x.TA x.t.length x.tc,F x.OA x.o.length x.oc,O U x.gt,O U x.sd,O U x.ms] 40) 112 #[O U kd,O U st,O U pe,O U va]).alloc (.cells #[F none 0 0,F none 0 0,O U 0,O U 0,O U 0] 40)
 have L3:=ah.new2 w (.cells #[F x.TA x.t.length x.tc,F x.OA x.o.length x.oc,O U x.gt,O U x.sd,O U x.ms] 40) (.cells #[O U kd,O U st,O U pe,O U va] 112) 40 #[F none 0 0,F none 0 0,O U 0,O U 0,O U 0]
 have b1:=bZ w (.cells #[F x.TA x.t.length x.tc,F x.OA x.o.length x.oc,O U x.gt,O U x.sd,O U x.ms] 40)
 have b2:=b1.alloc b1.size (.cells #[O U kd,O U st,O U pe,O U va] 112)
 have b3:=b2.alloc b2.size (.cells #[F none 0 0,F none 0 0,O U 0,O U 0,O U 0] 40)
 clear b1 b2
 have cV:=fun W hW=>ef x W hW
 have cO:=fun W=>pW ⟨kd,st,pe,va⟩ W
 have cT:=fun (G:bH x) (hs:cU.okS ⟨kd,st,pe,va⟩=true) W hW=>hM x ⟨kd,st,pe,va⟩ W hW G vM hs
 clear hM
 cases hg:an x
 ·rw [hg] at cV
  rw [show (if false && cU.okS ⟨kd,st,pe,va⟩ then pU (fS x.c ⟨kd,st,pe,va⟩) else none)=none from rfl]
  clear hg cO cT
  ·skip
   go_enter Tryz.func76,Tryz.ntmps76
   go_wp2_with fail
   generalize (((w.alloc (.cells #[F x.TA x.t.length x.tc,F x.OA x.o.length x.oc,O U x.gt,O U x.sd,O U x.ms] 40)).alloc (.cells #[O U kd,O U st,O U pe,O U va] 112)).alloc (.cells #[F none 0 0,F none 0 0,O U 0,O U 0,O U 0] 40))=W3 at L1 L2 L3 b3 ⊢
   have hR:=h.up b3 nR
   refine (cV W3 hR).mono ?_
   rintro e W4 ⟨rfl,vN⟩
   have k4:=b3.trans (vN.mono b3.size)
   have wQ:=L3.below vN L3.lt
   have z0:=wQ.cell 0
   have z1:=wQ.cell 1
   have z2:=wQ.cell 2
   have z3:=wQ.cell 3
   have z4:=wQ.cell 4
   obtain ⟨f0,f1,f2,f3,f4⟩:=frz5 wQ
   simp only [gz0,gz1] at z0 z1 z2 z3 z4
   have vO:=(gw5 W4 (w.heap.size+1+1) (F none 0 0) (F none 0 0) (O U 0) (O U 0) (O U 0))
   have bz:=k4.grown vO k4.size (by rintro _ ⟨⟩; omega)
   clear vO
   go_wp2
   refine bodyPost_ret (v:=.tuple #[.agg #[F none 0 0,F none 0 0,O U 0,O U 0,O U 0],.bool false]) (by simp [results,Tryz.results76,go_sem, *]) rfl ?_
   exact aE.no rfl bz
 ·have G:=bi.1 hg
  rw [hg] at cV
  have cT:=cT G
  clear hg G
  cases hs:cU.okS ⟨kd,st,pe,va⟩
  ·rw [hs] at cO
   rw [show (if true && false then pU (fS x.c ⟨kd,st,pe,va⟩) else none)=none from rfl]
   clear hs cT
   go_enter Tryz.func76,Tryz.ntmps76
   go_wp2_with fail
   generalize (((w.alloc (.cells #[F x.TA x.t.length x.tc,F x.OA x.o.length x.oc,O U x.gt,O U x.sd,O U x.ms] 40)).alloc (.cells #[O U kd,O U st,O U pe,O U va] 112)).alloc (.cells #[F none 0 0,F none 0 0,O U 0,O U 0,O U 0] 40))=W3 at L1 L2 L3 b3 ⊢
   have hR:=h.up b3 nR
   refine (cV W3 hR).mono ?_
   rintro e W4 ⟨rfl,vN⟩
   have Bt:=L2.below vN L2.lt
   obtain ⟨s0,s1,s2,s3⟩:=cells4 Bt
   go_wp2_with fail
   refine (cO W4).mono ?_
   rintro e W5 ⟨rfl,hb5⟩
   clear s0 s1 s2 s3
   have k5:=b3.trans ((av vN hb5).mono b3.size)
   have wQ:=L3.below (av vN hb5) L3.lt
   have z0:=wQ.cell 0
   have z1:=wQ.cell 1
   have z2:=wQ.cell 2
   have z3:=wQ.cell 3
   have z4:=wQ.cell 4
   obtain ⟨f0,f1,f2,f3,f4⟩:=frz5 wQ
   simp only [gz0,gz1] at z0 z1 z2 z3 z4
   have vO:=(gw5 W5 (w.heap.size+1+1) (F none 0 0) (F none 0 0) (O U 0) (O U 0) (O U 0))
   have bz:=k5.grown vO k5.size (by rintro _ ⟨⟩; omega)
   clear vO
   go_wp2
   refine bodyPost_ret (v:=.tuple #[.agg #[F none 0 0,F none 0 0,O U 0,O U 0,O U 0],.bool false]) (by simp [results,Tryz.results76,go_sem, *]) rfl ?_
   exact aE.no rfl bz
  ·have cT:=cT hs
   rw [hs] at cO
   rw [show (if true && true then pU (fS x.c ⟨kd,st,pe,va⟩) else none)=pU (fS x.c ⟨kd,st,pe,va⟩) from rfl]
   clear hs
   generalize fS x.c ⟨kd,st,pe,va⟩=R at cT ⊢
   obtain ⟨r,ok⟩:=R
   go_enter Tryz.func76,Tryz.ntmps76
   go_wp2_with fail
   generalize (((w.alloc (.cells #[F x.TA x.t.length x.tc,F x.OA x.o.length x.oc,O U x.gt,O U x.sd,O U x.ms] 40)).alloc (.cells #[O U kd,O U st,O U pe,O U va] 112)).alloc (.cells #[F none 0 0,F none 0 0,O U 0,O U 0,O U 0] 40))=W3 at L1 L2 L3 b3 ⊢
   have hR:=h.up b3 nR
   refine (cV W3 hR).mono ?_
   rintro e W4 ⟨rfl,vN⟩
   have Bt:=L2.below vN L2.lt
   obtain ⟨s0,s1,s2,s3⟩:=cells4 Bt
   go_wp2_with fail
   refine (cO W4).mono ?_
   rintro e W5 ⟨rfl,hb5⟩
   clear s0 s1 s2 s3
   have Bt:=L2.below (av vN hb5) L2.lt
   have Kd:=L1.below (av vN hb5) L1.lt
   obtain ⟨s0,s1,s2,s3⟩:=cells4 Bt
   obtain ⟨y0,y1,y2,y3,y4⟩:=cells5 Kd
   go_wp2_with fail
   refine (cT W5 (hR.then (av vN hb5))).mono ?_
   rintro e W6 ⟨TA,tc,OA,oc,rfl,hT,hO,wk⟩
   simp only at hT hO
   clear s0 s1 s2 s3 y0 y1 y2 y3 y4
   have k56:=av (av vN hb5) wk
   have vE:=(Below.refl W6.heap.size W6).alloc nR (.cells #[F TA r.t.length tc,F OA r.o.length oc,O U r.gt,O U r.sd,O U r.ms] 40)
   have k7:=b3.trans ((av k56 vE).mono b3.size)
   have wQ:=L3.below (av k56 vE) L3.lt
   have s36:W3.heap.size≤W5.heap.size:=(av vN hb5).size
   have Ef:=ac hT vE
   have Cq:=ac hO vE
   have z0:=wQ.cell 0
   have z1:=wQ.cell 1
   have z2:=wQ.cell 2
   have z3:=wQ.cell 3
   have z4:=wQ.cell 4
   obtain ⟨f0,f1,f2,f3,f4⟩:=frz5 wQ
   simp only [gz0,gz1] at z0 z1 z2 z3 z4
   clear hT hO
   cases ok
   ·have vO:=(gw5 (W6.alloc (.cells #[F TA r.t.length tc,F OA r.o.length oc,O U r.gt,O U r.sd,O U r.ms] 40)) (w.heap.size+1+1) (F none 0 0) (F none 0 0) (O U 0) (O U 0) (O U 0))
    have bz:=k7.grown vO k7.size (by rintro _ ⟨⟩; omega)
    clear vO Ef Cq vE
    go_wp2
    refine bodyPost_ret (v:=.tuple #[.agg #[F none 0 0,F none 0 0,O U 0,O U 0,O U 0],.bool false]) (by simp [results,Tryz.results76,go_sem, *]) rfl ?_
    exact aE.no rfl bz
   ·have vO:=(gw5 (W6.alloc (.cells #[F TA r.t.length tc,F OA r.o.length oc,O U r.gt,O U r.sd,O U r.ms] 40)) (w.heap.size+1+1) (F TA r.t.length tc) (F OA r.o.length oc) (O U r.gt) (O U r.sd) (O U r.ms))
    have bz:=k7.grown vO k7.size (by rintro _ ⟨⟩; omega)
    have R8:=jZ (ai (ak Ef wQ bX vO) (jT b3.size s36))
    have R9:=jZ (ai (ak Cq wQ ce vO) (jT b3.size s36))
    clear vO Ef Cq vE
    go_wp2
    refine bodyPost_ret (v:=.tuple #[.agg #[F TA r.t.length tc,F OA r.o.length oc,O U r.gt,O U r.sd,O U r.ms],.bool true]) (by simp [results,Tryz.results76,go_sem, *]) rfl ?_
    exact aE.yes rfl R8.out R9.out bz
end Go.Proofs.YtoeoimhemojdeaaGreatDoor
