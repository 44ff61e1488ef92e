/- Lemmas. -/
import Derived.Test.YtoeoimhemojdeaaGreatDoorFs15
import Derived.Test.YtoeoimhemojdeaaGreatDoorFs18

set_option linter.unusedVariables false
set_option linter.unusedSimpArgs false
set_option maxHeartbeats 8000000
open Go.Value renaming int → O, slice → F, string → wG
open Go.IntKind renaming i64 → U
open Go.Proofs.Tryz renaming prog → wH

namespace Go.Proofs.YtoeoimhemojdeaaGreatDoor
open Go.RowKit
def dz (w:World) (R:Oc × Bool) (e:Ending) (w' : World):Prop :=
 ∃ TA tc OA oc,e=.returned (.tuple #[.agg #[F TA R.1.t.length tc,F OA R.1.o.length oc,O U R.1.gt,O U R.1.sd,O U R.1.ms],.bool R.2])∧w'.ownsRow w.heap.size 104 2 (F TA R.1.t.length tc) R.1.t.length (R.1.t.flatMap aq.enc) ∧
  w'.ownsRow w.heap.size 147 3 (F OA R.1.o.length oc) R.1.o.length (R.1.o.flatMap ae.enc)∧Below w.heap.size w w'
set_option maxRecDepth 100000 in
theorem qK (hM:∀ (x:aO) (s:df) (w:World),aQ w w.heap.size x→bK x→x.t.length≤x.tc→s.okS=true→Calls wH 127 #[x.val,s.val] w (dz w (f9 x.c s)))
  (x:aO) (s:df) (w:World) (h:aQ w w.heap.size x) (wX:x.t.length≤x.tc) :
  Calls wH 76 #[x.val,s.val] w (aF w (if ao x && s.okS then qH (f9 x.c s) else none)):=by
 obtain ⟨kd,st,pe,va⟩:=s
 have L1:=((ai.new w 40 #[F x.TA x.t.length x.tc,F x.OA x.o.length x.oc,O U x.gt,O U x.sd,O U x.ms]).alloc (.cells #[O U kd,O U st,O U pe,O U va] 112)).alloc (.cells #[F none 0 0,F none 0 0,O U 0,O U 0,O U 0] 40)
 have L2:=(ai.new1 w (.cells #[F x.TA x.t.length x.tc,F x.OA x.o.length x.oc,O U x.gt,O U x.sd,O U x.ms] 40) 112 #[O U kd,O U st,O U pe,O U va]).alloc (.cells #[F none 0 0,F none 0 0,O U 0,O U 0,O U 0] 40)
 have L3:=ai.new2 w (.cells #[F x.TA x.t.length x.tc,F x.OA x.o.length x.oc,O U x.gt,O U x.sd,O U x.ms] 40) (.cells #[O U kd,O U st,O U pe,O U va] 112) 40 #[F none 0 0,F none 0 0,O U 0,O U 0,O U 0]
 have b1:=bZ w (.cells #[F x.TA x.t.length x.tc,F x.OA x.o.length x.oc,O U x.gt,O U x.sd,O U x.ms] 40)
 have b2:=b1.alloc b1.size (.cells #[O U kd,O U st,O U pe,O U va] 112)
 have b3:=b2.alloc b2.size (.cells #[F none 0 0,F none 0 0,O U 0,O U 0,O U 0] 40)
 clear b1 b2
 have cV:=fun W hW=>er x W hW
 have cO:=fun W=>qJ ⟨kd,st,pe,va⟩ W
 have cT:=fun (G:bK x) (hs:df.okS ⟨kd,st,pe,va⟩=true) W hW=>hM x ⟨kd,st,pe,va⟩ W hW G wX hs
 clear hM
 cases hg:ao x
 ·rw [hg] at cV
  rw [show (if false && df.okS ⟨kd,st,pe,va⟩ then qH (f9 x.c ⟨kd,st,pe,va⟩) else none)=none from rfl]
  clear hg cO cT
  ·skip
   go_enter Tryz.func76,Tryz.ntmps76
   go_wp2_with fail
   generalize (((w.alloc (.cells #[F x.TA x.t.length x.tc,F x.OA x.o.length x.oc,O U x.gt,O U x.sd,O U x.ms] 40)).alloc (.cells #[O U kd,O U st,O U pe,O U va] 112)).alloc (.cells #[F none 0 0,F none 0 0,O U 0,O U 0,O U 0] 40))=W3 at L1 L2 L3 b3 ⊢
   have hR:=h.up b3 nR
   refine (cV W3 hR).mono ?_
   rintro e W4 ⟨rfl,wV⟩
   have k4:=b3.trans (wV.mono b3.size)
   have xV:=L3.below wV L3.lt
   have z0:=xV.cell 0
   have z1:=xV.cell 1
   have z2:=xV.cell 2
   have z3:=xV.cell 3
   have z4:=xV.cell 4
   obtain ⟨f0,f1,f2,f3,f4⟩:=frz5 xV
   simp only [gz0,gz1] at z0 z1 z2 z3 z4
   have wY:=(gw5 W4 (w.heap.size+1+1) (F none 0 0) (F none 0 0) (O U 0) (O U 0) (O U 0))
   have bz:=k4.grown wY k4.size (by rintro _ ⟨⟩; omega)
   clear wY
   go_wp2
   refine bodyPost_ret (v:=.tuple #[.agg #[F none 0 0,F none 0 0,O U 0,O U 0,O U 0],.bool false]) (by simp [results,Tryz.results76,go_sem, *]) rfl ?_
   exact aF.no rfl bz
 ·have G:=br.1 hg
  rw [hg] at cV
  have cT:=cT G
  clear hg G
  cases hs:df.okS ⟨kd,st,pe,va⟩
  ·rw [hs] at cO
   rw [show (if true && false then qH (f9 x.c ⟨kd,st,pe,va⟩) else none)=none from rfl]
   clear hs cT
   go_enter Tryz.func76,Tryz.ntmps76
   go_wp2_with fail
   generalize (((w.alloc (.cells #[F x.TA x.t.length x.tc,F x.OA x.o.length x.oc,O U x.gt,O U x.sd,O U x.ms] 40)).alloc (.cells #[O U kd,O U st,O U pe,O U va] 112)).alloc (.cells #[F none 0 0,F none 0 0,O U 0,O U 0,O U 0] 40))=W3 at L1 L2 L3 b3 ⊢
   have hR:=h.up b3 nR
   refine (cV W3 hR).mono ?_
   rintro e W4 ⟨rfl,wV⟩
   have CT:=L2.below wV L2.lt
   obtain ⟨s0,s1,s2,s3⟩:=cells4 CT
   go_wp2_with fail
   refine (cO W4).mono ?_
   rintro e W5 ⟨rfl,hb5⟩
   clear s0 s1 s2 s3
   have k5:=b3.trans ((av wV hb5).mono b3.size)
   have xV:=L3.below (av wV hb5) L3.lt
   have z0:=xV.cell 0
   have z1:=xV.cell 1
   have z2:=xV.cell 2
   have z3:=xV.cell 3
   have z4:=xV.cell 4
   obtain ⟨f0,f1,f2,f3,f4⟩:=frz5 xV
   simp only [gz0,gz1] at z0 z1 z2 z3 z4
   have wY:=(gw5 W5 (w.heap.size+1+1) (F none 0 0) (F none 0 0) (O U 0) (O U 0) (O U 0))
   have bz:=k5.grown wY k5.size (by rintro _ ⟨⟩; omega)
   clear wY
   go_wp2
   refine bodyPost_ret (v:=.tuple #[.agg #[F none 0 0,F none 0 0,O U 0,O U 0,O U 0],.bool false]) (by simp [results,Tryz.results76,go_sem, *]) rfl ?_
   exact aF.no rfl bz
  ·have cT:=cT hs
   rw [hs] at cO
   rw [show (if true && true then qH (f9 x.c ⟨kd,st,pe,va⟩) else none)=qH (f9 x.c ⟨kd,st,pe,va⟩) from rfl]
   clear hs
   generalize f9 x.c ⟨kd,st,pe,va⟩=R at cT ⊢
   obtain ⟨r,ok⟩:=R
   go_enter Tryz.func76,Tryz.ntmps76
   go_wp2_with fail
   generalize (((w.alloc (.cells #[F x.TA x.t.length x.tc,F x.OA x.o.length x.oc,O U x.gt,O U x.sd,O U x.ms] 40)).alloc (.cells #[O U kd,O U st,O U pe,O U va] 112)).alloc (.cells #[F none 0 0,F none 0 0,O U 0,O U 0,O U 0] 40))=W3 at L1 L2 L3 b3 ⊢
   have hR:=h.up b3 nR
   refine (cV W3 hR).mono ?_
   rintro e W4 ⟨rfl,wV⟩
   have CT:=L2.below wV L2.lt
   obtain ⟨s0,s1,s2,s3⟩:=cells4 CT
   go_wp2_with fail
   refine (cO W4).mono ?_
   rintro e W5 ⟨rfl,hb5⟩
   clear s0 s1 s2 s3
   have CT:=L2.below (av wV hb5) L2.lt
   have Mr:=L1.below (av wV hb5) L1.lt
   obtain ⟨s0,s1,s2,s3⟩:=cells4 CT
   obtain ⟨y0,y1,y2,y3,y4⟩:=cells5 Mr
   go_wp2_with fail
   refine (cT W5 (hR.then (av wV hb5))).mono ?_
   rintro e W6 ⟨TA,tc,OA,oc,rfl,hT,hO,xn⟩
   simp only at hT hO
   clear s0 s1 s2 s3 y0 y1 y2 y3 y4
   have k56:=av (av wV hb5) xn
   have wO:=(Below.refl W6.heap.size W6).alloc nR (.cells #[F TA r.t.length tc,F OA r.o.length oc,O U r.gt,O U r.sd,O U r.ms] 40)
   have k7:=b3.trans ((av k56 wO).mono b3.size)
   have xV:=L3.below (av k56 wO) L3.lt
   have s36:W3.heap.size≤W5.heap.size:=(av wV hb5).size
   have FI:=ac hT wO
   have Cy:=ac hO wO
   have z0:=xV.cell 0
   have z1:=xV.cell 1
   have z2:=xV.cell 2
   have z3:=xV.cell 3
   have z4:=xV.cell 4
   obtain ⟨f0,f1,f2,f3,f4⟩:=frz5 xV
   simp only [gz0,gz1] at z0 z1 z2 z3 z4
   clear hT hO
   cases ok
   ·have wY:=(gw5 (W6.alloc (.cells #[F TA r.t.length tc,F OA r.o.length oc,O U r.gt,O U r.sd,O U r.ms] 40)) (w.heap.size+1+1) (F none 0 0) (F none 0 0) (O U 0) (O U 0) (O U 0))
    have bz:=k7.grown wY k7.size (by rintro _ ⟨⟩; omega)
    clear wY FI Cy wO
    go_wp2
    refine bodyPost_ret (v:=.tuple #[.agg #[F none 0 0,F none 0 0,O U 0,O U 0,O U 0],.bool false]) (by simp [results,Tryz.results76,go_sem, *]) rfl ?_
    exact aF.no rfl bz
   ·have wY:=(gw5 (W6.alloc (.cells #[F TA r.t.length tc,F OA r.o.length oc,O U r.gt,O U r.sd,O U r.ms] 40)) (w.heap.size+1+1) (F TA r.t.length tc) (F OA r.o.length oc) (O U r.gt) (O U r.sd) (O U r.ms))
    have bz:=k7.grown wY k7.size (by rintro _ ⟨⟩; omega)
    have R8:=jZ (ah (ak FI xV cd wY) (jT b3.size s36))
    have R9:=jZ (ah (ak Cy xV ci wY) (jT b3.size s36))
    clear wY FI Cy wO
    go_wp2
    refine bodyPost_ret (v:=.tuple #[.agg #[F TA r.t.length tc,F OA r.o.length oc,O U r.gt,O U r.sd,O U r.ms],.bool true]) (by simp [results,Tryz.results76,go_sem, *]) rfl ?_
    exact aF.yes rfl R8.out R9.out bz
end Go.Proofs.YtoeoimhemojdeaaGreatDoor
