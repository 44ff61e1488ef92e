/- Rs17: the texts ExV LawScr OpenOff OpenRec OpenText OpenLog OpenCon, joined into one file. -/
import Derived.Test.YtoeoimhemojdeaaGreatDoorProg
import Derived.Test.YtoeoimhemojdeaaGreatDoorRs01
import Derived.Test.YtoeoimhemojdeaaGreatDoorRs07
import Derived.Test.YtoeoimhemojdeaaGreatDoorRs08
import Derived.Test.YtoeoimhemojdeaaGreatDoorRs09
import Derived.Test.YtoeoimhemojdeaaGreatDoorRs16

set_option linter.unusedVariables false
open Go.Value renaming int → O, slice → F, string → uk
open Go.IntKind renaming i64 → U

namespace Go.Proofs.YtoeoimhemojdeaaGreatDoor
open Go.RowKit
set_option maxHeartbeats 1000000 in
theorem nF (x:aL) (l:Lg) (p1 p2 lo hi:Nat) (w:World) (hn:x.t.length≤1048576) (hm:x.o.length≤1048576) (l1:lo≤p1) (l2:p1 < p2) (l3:p2 < hi) (l4:hi≤w.heap.size)
  (h1:ah w p1 104 (x.t.flatMap ap.enc)) (h2:ah w p2 147 (x.o.flatMap ae.enc)) :
  Calls Tryz.prog 18 #[.agg #[F (some ⟨p1,0,none⟩) x.t.length x.t.length,F (some ⟨p2,0,none⟩) x.o.length x.o.length,O U x.got,O U x.sold,O U x.missed,uk l.D,uk l.P,O U l.n],O U 1] w fun e w'=>(∃ k1:Int,e=.returned (O U k1)∧0≤k1)∧mh lo hi w w':=by
 have b0:mh lo hi w (w.alloc (.cells #[F (some ⟨p1,0,none⟩) x.t.length x.t.length,F (some ⟨p2,0,none⟩) x.o.length x.o.length,O U x.got,O U x.sold,O U x.missed,uk l.D,uk l.P,O U l.n] 42)):=⟨rfl,rfl,rfl,by simp,fun k hk _=>Below.heap_alloc w _ k hk⟩
 have j1:=h1.alloc (.cells #[F (some ⟨p1,0,none⟩) x.t.length x.t.length,F (some ⟨p2,0,none⟩) x.o.length x.o.length,O U x.got,O U x.sold,O U x.missed,uk l.D,uk l.P,O U l.n] 42)
 have j2:=h2.alloc (.cells #[F (some ⟨p1,0,none⟩) x.t.length x.t.length,F (some ⟨p2,0,none⟩) x.o.length x.o.length,O U x.got,O U x.sold,O U x.missed,uk l.D,uk l.P,O U l.n] 42)
 have hsz:w.heap.size≤(w.alloc (.cells #[F (some ⟨p1,0,none⟩) x.t.length x.t.length,F (some ⟨p2,0,none⟩) x.o.length x.o.length,O U x.got,O U x.sold,O U x.missed,uk l.D,uk l.P,O U l.n] 42)).heap.size:=b0.size
 go_enter Tryz.func18,Tryz.ntmps18
 go_wp2_with fail
 generalize w.alloc (.cells #[F (some ⟨p1,0,none⟩) x.t.length x.t.length,F (some ⟨p2,0,none⟩) x.o.length x.o.length,O U x.got,O U x.sold,O U x.missed,uk l.D,uk l.P,O U l.n] 42)=W at b0 j1 j2 hsz ⊢
 refine (my x p1 p2 lo hi W hn hm l1 l2 l3 (by omega) j1 j2).mono ?_
 rintro e w1 ⟨⟨k1,rfl,hk1⟩,hm1⟩
 have HM:=Lib.hid (b0.trans hm1)
 clear b0 hm1
 go_wp2
 go_ret
 exact ⟨⟨k1,rfl,hk1⟩,HM.out⟩
theorem mh.ownT {lo hi B c:Nat} {A:Option Addr} {m:List ByteArray} {w w' : World} (h:mh lo hi w w') (ho:ib w B A c m) (hB:hi≤B):ib w' B A c m:=by
 obtain ⟨hl,h0 | ⟨g,cap,cur,hv,hg,hh,hr⟩⟩:=ho
 ·exact ⟨hl,.inl h0⟩
 ·exact ⟨hl,.inr ⟨g,cap,cur,hv,hg,(h.block g (Array.getElem?_eq_some_iff.1 hh).1 (by omega)).trans hh,hr⟩⟩
set_option maxRecDepth 100000 in
set_option maxHeartbeats 8000000 in
theorem qL (x:aL) (l:Lg) (line:ByteArray) (w:World) (h:aM w w.heap.size x) (hd1:l.D.size≤9223372036854775807) (hd2:l.P.size≤9223372036854775807) (hlz:line.size≤9223372036854775807) (hLW:LW w) :
  Calls Tryz.prog 5 #[aD x l,uk line] w fun e w'=>e=.returned (.bool true)∧Below w.heap.size w w':=by
 have hl1:=h.ts.big
 have hl2:=h.os.big
 have b0:=(Below.refl w.heap.size w).alloc (Nat.le_refl _) (.cells #[F x.TA x.t.length x.tc,F x.OA x.o.length x.oc,O U x.got,O U x.sold,O U x.missed,uk l.D,uk l.P,O U l.n] 35)
 have L0:=ah.new w 35 #[F x.TA x.t.length x.tc,F x.OA x.o.length x.oc,O U x.got,O U x.sold,O U x.missed,uk l.D,uk l.P,O U l.n]
 by_cases hbl:line.size≤1048576
 ·have hbi : ¬ (1048576:Int) < (line.size:Int):=by omega
  obtain ⟨z,hz⟩ : ∃ z,z=dD (bO 1048576 (x.t.length+x.o.length)) l.need:=⟨_,rfl⟩
  have HZ:Hid (dD (bO 1048576 (x.t.length+x.o.length)) l.need=z):=hz.symm
  by_cases hbig:((x.t.length+x.o.length:Nat):Int)≤1048576∧(l.need:Int)≤1048576 - ((x.t.length+x.o.length:Nat):Int)
  ·obtain ⟨hb1',hb2'⟩:=hbig
   have hz0:0≤z:=by rw [hz]; unfold dD bO; rw [if_pos hb1',if_pos hb2']; omega
   have hn:x.t.length≤1048576:=by omega
   have hm:x.o.length≤1048576:=by omega
   have hs:l.D.size+l.P.size≤2000000:=by unfold Lg.need at hb2'; omega
   have hzn:decide (z < 0)=false:=decide_eq_false (by omega)
   clear hz hb2' hb1'
   have cS:∀ g1 g2 W,aM W W.heap.size (x.copy g1 g2)→Calls Tryz.prog 20 #[aD (x.copy g1 g2) l,uk line] W (dR W (eD x.c l line) (dk x.c l line)):=fun g1 g2 W hW=>pM (x.copy g1 g2) l line W hW hn hm hs hbl
   have cI:∀ g1 g2 W,aM W W.heap.size (x.copy g1 g2)→LW W→Calls Tryz.prog 21 #[aD (x.copy g1 g2) l,uk line] W (dR W (eD x.c l line) (dk x.c l line)):=fun g1 g2 W hW hL=>pL (x.copy g1 g2) l line W hW hn hm hs hbl hL
   unfold dR at cS cI
   have hml:=pK x.c l line
   obtain ⟨m,hmm⟩ : ∃ m,eD x.c l line=m:=⟨_,rfl⟩
   obtain ⟨ok,hok⟩ : ∃ ok,dk x.c l line=ok:=⟨_,rfl⟩
   rw [hmm] at cS cI hml
   rw [hok] at cS cI
   clear hmm hok
   have hbn:(ok != ok)=false:=by simp
   go_enter Tryz.func5,Tryz.ntmps5
   go_wp2_with fail
   generalize w.alloc (.cells #[F x.TA x.t.length x.tc,F x.OA x.o.length x.oc,O U x.got,O U x.sold,O U x.missed,uk l.D,uk l.P,O U l.n] 35)=W at b0 L0 ⊢
   have hW:=h.up b0 (Nat.le_refl _)
   refine (fJ x l _ _ hl1 hl2 hd1 hd2 (by omega) (by omega)).mono ?_
   rintro e w1 ⟨rfl,hb1⟩
   rw [HZ.out]
   have L1:=L0.below hb1 L0.lt
   have B1:=b0.trans (hb1.mono b0.size)
   have R1:=hW.then hb1
   clear L0 b0 hb1 hW h
   obtain ⟨c0,c1,c2,c3,c4,c5,c6,c7⟩:=cells8 L1
   go_wp2_with fail
   refine (db x l _ R1 hn hm).mono ?_
   rintro e w2 ⟨g21,g22,rfl,hg21,hg22,hl21,hl22,hb2⟩
   go_wp2_with fail
   refine (cS g21 g22 _ (di hl21 hl22 hn hm)).mono ?_
   rintro e w3 ⟨A3,k3,rfl,ho3,hb3⟩
   have hx:=aq hb2 hb3
   have r3:aY w3 w3.heap.size 1 A3 m.length (lm m):=ib.reads ho3
   have L4:=L1.below hx L1.lt
   have B4:=B1.trans (hx.mono B1.size)
   have s03:=L4.lt
   have s3:w3.heap.size≤w3.heap.size:=Nat.le_refl _
   have R4:=R1.then hx
   clear hb2 hb3 hl21 hl22 ho3 L1 B1 R1 cS hx c0 c1 c2 c3 c4 c5 c6 c7
   obtain ⟨c0,c1,c2,c3,c4,c5,c6,c7⟩:=cells8 L4
   go_wp2_with fail
   refine (db x l _ R4 hn hm).mono ?_
   rintro e w5 ⟨p1,p2,rfl,hp1,hp2,hq1,hq2,hb5⟩
   clear c0 c1 c2 c3 c4 c5 c6 c7
   go_upto_region 9 with fail
   have hal:=(Below.refl w5.heap.size w5).alloc (Nat.le_refl _) (.cells #[F (some ⟨p1,0,none⟩) x.t.length x.t.length,F (some ⟨p2,0,none⟩) x.o.length x.o.length,O U x.got,O U x.sold,O U x.missed,uk l.D,uk l.P,O U l.n] 42)
   have q1:=hq1.alloc (.cells #[F (some ⟨p1,0,none⟩) x.t.length x.t.length,F (some ⟨p2,0,none⟩) x.o.length x.o.length,O U x.got,O U x.sold,O U x.missed,uk l.D,uk l.P,O U l.n] 42)
   have q2:=hq2.alloc (.cells #[F (some ⟨p1,0,none⟩) x.t.length x.t.length,F (some ⟨p2,0,none⟩) x.o.length x.o.length,O U x.got,O U x.sold,O U x.missed,uk l.D,uk l.P,O U l.n] 42)
   have L8:=ah.new w5 42 #[F (some ⟨p1,0,none⟩) x.t.length x.t.length,F (some ⟨p2,0,none⟩) x.o.length x.o.length,O U x.got,O U x.sold,O U x.missed,uk l.D,uk l.P,O U l.n]
   have hx5:=aq hb5 hal
   have gp2:=hq2.lt
   have g45:=hb5.size
   generalize w5.alloc (.cells #[F (some ⟨p1,0,none⟩) x.t.length x.t.length,F (some ⟨p2,0,none⟩) x.o.length x.o.length,O U x.got,O U x.sold,O U x.missed,uk l.D,uk l.P,O U l.n] 42)=w6 at q1 q2 L8 hx5 ⊢
   generalize w5.heap.size=g8 at L8 gp2 g45 ⊢
   have L6:=L4.below hx5 L4.lt
   have B6:=B4.trans (hx5.mono B4.size)
   have r6:aY w6 w3.heap.size 1 A3 m.length (lm m):=aY.below r3 hx5
   have g86:=L8.lt
   have s36:=hx5.size
   have s06:=B6.size
   clear hal hq1 hq2 hb5 L4 B4 r3
   obtain ⟨c0,c1,c2,c3,c4,c5,c6,c7⟩:=cells8 L8
   go_wp2_with fail
   refine (cI p1 p2 _ (di q1 q2 hn hm) (hLW.then B6)).mono ?_
   rintro e w7 ⟨A9,k9,rfl,O9,hb7⟩
   have O9:ib w7 w6.heap.size A9 k9 m:=O9
   have L7:=L6.below hb7 L6.lt
   have B7:=B6.trans (hb7.mono B6.size)
   have r7:aY w7 w3.heap.size 1 A3 m.length (lm m):=aY.below r6 (hb7.mono s36)
   have M8:=L8.below hb7 L8.lt
   have q17:=q1.below hb7 q1.lt
   have q27:=q2.below hb7 q2.lt
   have H7:=aq hx5 hb7
   have s67:=hb7.size
   clear L6 B6 r6 L8 q1 q2 hb7 hx5 c0 c1 c2 c3 c4 c5 c6 c7
   go_wp2_with fail
   refine (jh A9 A3 k9 k3 m w7 (ib.reads O9) (aY.mono r7 (Nat.le_trans s36 s67))).mono ?_
   rintro e wA ⟨rfl,hbA⟩
   have BA:=B7.trans (hbA.mono B7.size)
   have LA:=L7.below hbA L7.lt
   have sA:=hbA.size
   have rA:aY wA w3.heap.size 1 A3 m.length (lm m):=aY.below r7 (hbA.mono (Nat.le_trans s36 s67))
   have MA8:=M8.below hbA M8.lt
   have qA1:=q17.below hbA q17.lt
   have qA2:=q27.below hbA q27.lt
   have OA:=ac O9 hbA
   have HA:=H7.trans (hbA.mono H7.size)
   have RA:=R4.then HA
   clear L7 r7 M8 q17 q27 O9 B7 hbA H7
   go_wp2_with fail
   refine am (fun _=>(fun W9=>Below wA.heap.size wA W9)) (fun _ w1 w2=>Below w1.heap.size w1 w2) (by kernel_rfl) (by kernel_rfl) (by kernel_rfl) (Below.refl _ _).drew ?_
   simp only [aw,Act.put,List.setIfInBounds_toArray,List.set_cons_zero,List.set_cons_succ,Nat.zero_add,Nat.reduceAdd]
   apply aa
   case h1 =>
    intro vs L9 w9 hG9 hC9 hB K9 hK9
    have q0:w9.cell? ⟨g8,0,none⟩=some (F (some ⟨p1,0,none⟩) x.t.length x.t.length):=(MA8.below hC9 MA8.lt).cell 0
    have q1:w9.cell? ⟨g8,1,none⟩=some (F (some ⟨p2,0,none⟩) x.o.length x.o.length):=(MA8.below hC9 MA8.lt).cell 1
    have q2:w9.cell? ⟨g8,2,none⟩=some (O U x.got):=(MA8.below hC9 MA8.lt).cell 2
    have q3:w9.cell? ⟨g8,3,none⟩=some (O U x.sold):=(MA8.below hC9 MA8.lt).cell 3
    have q4:w9.cell? ⟨g8,4,none⟩=some (O U x.missed):=(MA8.below hC9 MA8.lt).cell 4
    have q5:w9.cell? ⟨g8,5,none⟩=some (uk l.D):=(MA8.below hC9 MA8.lt).cell 5
    have q6:w9.cell? ⟨g8,6,none⟩=some (uk l.P):=(MA8.below hC9 MA8.lt).cell 6
    have q7:w9.cell? ⟨g8,7,none⟩=some (O U l.n):=(MA8.below hC9 MA8.lt).cell 7
    simp only [Act.put,sA,s0,s1] at hK9
    go_simp
    exact hK9 _ _ rfl hC9 (Below.refl _ _)
   apply aa
   case h1 =>
    intro vs L9 w9 hG9 hC9 hB K9 hK9
    have q0:w9.cell? ⟨w.heap.size,0,none⟩=some (F x.TA x.t.length x.tc):=(LA.below hC9 LA.lt).cell 0
    have q1:w9.cell? ⟨w.heap.size,1,none⟩=some (F x.OA x.o.length x.oc):=(LA.below hC9 LA.lt).cell 1
    have q2:w9.cell? ⟨w.heap.size,2,none⟩=some (O U x.got):=(LA.below hC9 LA.lt).cell 2
    have q3:w9.cell? ⟨w.heap.size,3,none⟩=some (O U x.sold):=(LA.below hC9 LA.lt).cell 3
    have q4:w9.cell? ⟨w.heap.size,4,none⟩=some (O U x.missed):=(LA.below hC9 LA.lt).cell 4
    have q5:w9.cell? ⟨w.heap.size,5,none⟩=some (uk l.D):=(LA.below hC9 LA.lt).cell 5
    have q6:w9.cell? ⟨w.heap.size,6,none⟩=some (uk l.P):=(LA.below hC9 LA.lt).cell 6
    have q7:w9.cell? ⟨w.heap.size,7,none⟩=some (O U l.n):=(LA.below hC9 LA.lt).cell 7
    simp only [Act.put,sA,s0,s1] at hK9
    go_simp
    exact hK9 _ _ rfl hC9 (Below.refl _ _)
   refine ak [] (fun v w9=>∃ g1 g2,v=aD (x.copy g1 g2) l∧ah w9 g1 104 (x.t.flatMap ap.enc)∧ah w9 g2 147 (x.o.flatMap ae.enc)) ?_ (fun vs L9 w9 hG9 hC9 hB K9 hK9=>?_) ?_
   next =>
    intro i9 hi9 hb9 ha9 v w1 w2 hv hT9
    have hb:=hT9
    obtain ⟨g1,g2,e1,e2,e3⟩:=hv
    exact ⟨g1,g2,e1,e2.below hb e2.lt,e3.below hb e3.lt⟩
   next =>
    have d1:=fe hB 1
    simp only [d1] at hK9 ⊢
    simp only [Act.put,sA,s0,s1] at hK9
    go_simp
    refine (db x l w9 (RA.then hC9) hn hm).mono ?_
    rintro en w8 ⟨g1,g2,rfl,_,_,e2,e3,hb8⟩
    exact hK9 _ _ _ rfl ⟨g1,g2,rfl,e2,e3⟩ (hC9.trans (hb8.mono hC9.size)) hb8
   refine aa (.bool true) (fun vs L9 w9 hG9 hC9 hB K9 hK9=>?_) ?_
   next =>
    have d0:=fe hB 0
    simp only [d0] at hK9 ⊢
    obtain ⟨g1,g2,e1,e2,e3⟩:=fs hB 2
    simp only [e1] at hK9 ⊢
    go_simp
    refine (hU (x.copy p1 p2) (x.copy g1 g2) l w9 (di (qA1.below hC9 qA1.lt) (qA2.below hC9 qA2.lt) hn hm) (di e2 e3 hn hm) (decide_eq_true rfl) (decide_eq_true rfl) rfl rfl rfl).mono ?_
    rintro en w8 ⟨rfl,hb8⟩
    exact hK9 _ _ rfl (hC9.trans (hb8.mono hC9.size)) hb8
   apply aa
   case h1 =>
    intro vs L9 w9 hG9 hC9 hB K9 hK9
    have d3:=fe hB 3
    simp only [d3] at hK9 ⊢
    simp only [Act.put,sA,s0,s1] at hK9
    go_simp
    exact hK9 _ _ rfl hC9 (Below.refl _ _)
   refine ax fun vs L9 wB hL9 hbB hB=>?_
   have dl:=ag.eq (hB 4 _ rfl rfl (by decide))
   simp only [dl]
   clear hB hL9 dl
   have BB:=BA.trans (hbB.mono BA.size)
   have sB:=hbB.size
   have rB:aY wB w3.heap.size 1 A3 m.length (lm m):=aY.below rA (hbB.mono (by omega))
   have MB8:=MA8.below hbB MA8.lt
   have qB1:=qA1.below hbB qA1.lt
   have qB2:=qA2.below hbB qA2.lt
   have OB:=ac OA hbB
   have HB:=HA.trans (hbB.mono HA.size)
   have LB:=LA.below hbB LA.lt
   clear LA rA MA8 qA1 qA2 OA BA hbB RA HA
   obtain ⟨c0,c1,c2,c3,c4,c5,c6,c7⟩:=cells8 MB8
   go_wp2_with fail
   refine (nF x l p1 p2 w3.heap.size g8 wB hn hm hp1 hp2 gp2 (by omega) qB1 qB2).mono ?_
   rintro e wC ⟨⟨k1,rfl,hk1⟩,hmC⟩
   clear c0 c1 c2 c3 c4 c5 c6 c7
   have hbC:=hmC.below (show w3.heap.size≤wB.heap.size by omega)
   have BC:=BB.trans (hbC.mono (by have:=LB.lt; omega))
   have HC:=HB.trans hbC
   have rC:aY wC w3.heap.size 1 A3 m.length (lm m):=aY.below rB hbC
   have OC:=mh.ownT (B:=w6.heap.size) (A:=A9) (c:=k9) (m:=m) hmC OB (Nat.le_of_lt g86)
   have LC':=hmC.lies LB (.inl (by omega))
   have sC:=hmC.size
   clear rB MB8 qB1 qB2 OB LB hmC BB HB hbC
   go_wp2_with fail
   refine (jh A9 A3 k9 k3 m wC (ib.reads OC) (aY.mono rC (by omega))).mono ?_
   rintro e wD ⟨rfl,hbD⟩
   have BD:=BC.trans (hbD.mono BC.size)
   have HD:=HC.trans (hbD.mono HC.size)
   have rD:aY wD w3.heap.size 1 A3 m.length (lm m):=aY.below rC (hbD.mono (by omega))
   have OD:=ac OC hbD
   have LD:=LC'.below hbD LC'.lt
   have sD:=hbD.size
   clear rC OC LC' BC hbD HC
   have MK:=nh w6.heap.size A9 k9 1 m wD (by omega) (by omega) (by omega) OD
   have HH:=fun W h=>ni A9 k9 1 m W (by omega) (by omega) (by omega) h
   obtain ⟨mk,hmk⟩ : ∃ mk:Int,((1+m.length:Nat):Int)=mk:=⟨_,rfl⟩
   have hmk0:0≤mk:=by omega
   have hmn:(mk != mk)=false:=by simp
   simp only [hmk] at MK HH
   have HH:=Lib.hid HH
   clear hmk
   go_wp2_with fail
   refine MK.mono ?_
   rintro e wE ⟨rfl,OE,sE,hbE⟩
   have BE:=BD.trans (hbE.mono (by omega))
   have HE:=HD.trans (hbE.mono (by omega))
   have rE:aY wE w3.heap.size 1 A3 m.length (lm m):=aY.below rD (hbE.mono (by omega))
   have LE:=LD.below hbE (by omega)
   clear rD LD BD OD hbE HD MK
   go_wp2_with fail
   refine (HH.out wE OE.reads).mono ?_
   rintro e wF ⟨rfl,hbF⟩
   have BF:=BE.trans (hbF.mono BE.size)
   have HF:=HE.trans (hbF.mono HE.size)
   have rF:aY wF w3.heap.size 1 A3 m.length (lm m):=aY.below rE (hbF.mono (by omega))
   have LF:=LE.below hbF LE.lt
   have OF:=OE.then hbF
   have RF:=R4.then HF
   have sF:=hbF.size
   clear rE LE OE BE hbF HE HF
   obtain ⟨c0,c1,c2,c3,c4,c5,c6,c7⟩:=cells8 LF
   go_wp2_with fail
   refine (db x l _ RF hn hm).mono ?_
   rintro e wG ⟨n1,n2,rfl,hn1,hn2,hln1,hln2,hbG⟩
   go_wp2_with fail
   refine (cI n1 n2 _ (di hln1 hln2 hn hm) ((hLW.then BF).then hbG)).mono ?_
   rintro e wH ⟨A14,k14,rfl,O14,hbH⟩
   clear c0 c1 c2 c3 c4 c5 c6 c7
   have hxH:=aq hbG hbH
   have BH:=BF.trans (hxH.mono BF.size)
   have rH:aY wH w3.heap.size 1 A3 m.length (lm m):=aY.below rF (hxH.mono (by omega))
   have OH:=OF.then hxH
   have sH:=hxH.size
   clear hbG hbH hln1 hln2 rF LF OF BF RF cI hxH
   go_wp2_with fail
   refine (jh A14 A3 k14 k3 m wH (ib.reads O14) (aY.mono rH (by omega))).mono ?_
   rintro e wJ ⟨rfl,hbJ⟩
   have BJ:=BH.trans (hbJ.mono BH.size)
   have OJ:=OH.then hbJ
   clear rH OH O14 BH hbJ
   go_wp2_with fail
   refine (HH.out wJ OJ.reads).mono ?_
   rintro e wK ⟨rfl,hbK⟩
   clear OJ
   go_wp2
   go_ret
   exact ⟨rfl,BJ.trans (hbK.mono BJ.size)⟩
  ·have hz0:z = -1:=by
    rw [hz]; unfold dD bO
    by_cases hq:((x.t.length+x.o.length:Nat):Int)≤1048576
    ·rw [if_pos hq,if_neg (fun hh=>hbig ⟨hq,hh⟩)]
    ·rw [if_neg hq,if_neg (by omega)]
   rw [hz0] at HZ
   clear hz hz0 hbig
   go_enter Tryz.func5,Tryz.ntmps5
   go_wp2_with fail
   generalize w.alloc (.cells #[F x.TA x.t.length x.tc,F x.OA x.o.length x.oc,O U x.got,O U x.sold,O U x.missed,uk l.D,uk l.P,O U l.n] 35)=W at b0 L0 ⊢
   have hW:=h.up b0 (Nat.le_refl _)
   refine (fJ x l _ _ hl1 hl2 hd1 hd2 (by omega) (by omega)).mono ?_
   rintro e w1 ⟨rfl,hb1⟩
   rw [HZ.out]
   go_wp2
   go_ret
   exact ⟨rfl,b0.trans (hb1.mono b0.size)⟩
 ·have hbi:(1048576:Int) < (line.size:Int):=by omega
  go_enter Tryz.func5,Tryz.ntmps5
  go_wp2
  go_ret
  exact ⟨rfl,b0⟩
end Go.Proofs.YtoeoimhemojdeaaGreatDoor
namespace Go.Proofs.YtoeoimhemojdeaaGreatDoor
open Go.ChangeShapes Go.WideShapes Go.ChangeAt Go.RowKit Go.Deep
section
variable {H:Type} {enc:TypeId × Value→H} {P:Program} {w:World} {base:Nat} {spare:Nat→Bool} {held:Bool}
theorem iv {α:Type} (en:α→List Value) {t e:TypeId} {fs:Array Field} {k n:Nat} {v:Value} {x:DataW H × List MemPlace} (ht:P.underlying t=some (.slice e)) (he:P.underlying e=some (.struct fs)) (hone:oneCellFields P fs=true) (hC:P.cellsOf e=fs.size) (hint:io P fs=true) (hk:fs.size=k) (hk0:0 < k)
  (hen:∀ ns:List Int,ns.length=k→∃ x,ns.map (Value.int .i64)=en x)
  (h:DataW.trod enc P w base spare held n t [v]=some x):∃ A c,∃ l:List α,v=.slice A l.length c∧aY w w.heap.size k A l.length (l.flatMap en):=by
 obtain ⟨A,len,cap,hv,css,hl,hS,hcs⟩:=pv ht (hC.trans hk) hk0 h
 obtain ⟨l,hfl,hll⟩:=kY en css (fun cs hc=>by
  obtain ⟨hlen,m,y,hy⟩:=hcs cs hc
  obtain ⟨ns,hn',hc'⟩:=gB he hone hC hint hk hy
  obtain ⟨x,hx⟩:=hen ns hn'
  exact ⟨x,by rw [hc',hx]⟩)
 refine ⟨A,cap,l,by rw [hll,hl]; exact hv, ?_⟩
 rw [hll,hl,← hfl]; exact hS
end
section
variable {H:Type} {enc:TypeId × Value→H} {w:World} {base:Nat} {spare:Nat→Bool} {held:Bool}
theorem lR {n:Nat} {cs:List Value} {x:DataW H × List MemPlace} (h:DataW.trod enc Tryz.prog w base spare held n 33 cs=some x):∃ p:aL,cs=p.enc∧aM w w.heap.size p:=by
 obtain ⟨hl,hf⟩:=gX Tryz.underlying33 (by kernel_rfl) (by kernel_rfl) h
 match cs,hl with
 | [v0,v1,v2,v3,v4],_ =>
  obtain ⟨u0,_,_,e0,t0⟩:=hf 0 _ rfl
  obtain ⟨u1,_,_,e1,t1⟩:=hf 1 _ rfl
  obtain ⟨u2,_,_,e2,t2⟩:=hf 2 _ rfl
  obtain ⟨u3,_,_,e3,t3⟩:=hf 3 _ rfl
  obtain ⟨u4,_,_,e4,t4⟩:=hf 4 _ rfl
  simp only [List.getElem?_cons_zero,List.getElem?_cons_succ,Option.some.injEq] at e0 e1 e2 e3 e4
  subst e0; subst e1; subst e2; subst e3; subst e4
  obtain ⟨TA,tc,t,rfl,ht⟩:=iv (k:=2) ap.enc Tryz.underlying30 Tryz.underlying166 (by kernel_rfl) (by kernel_rfl) (by kernel_rfl) (by kernel_rfl) (by omega) ap.of_ints_enc t0
  obtain ⟨OA,oc,o,rfl,ho⟩:=iv (k:=3) ae.enc Tryz.underlying31 Tryz.underlying168 (by kernel_rfl) (by kernel_rfl) (by kernel_rfl) (by kernel_rfl) (by omega) ae.of_ints_enc t1
  obtain ⟨g,rfl,_,_⟩:=im Tryz.underlying3 t2
  obtain ⟨s,rfl,_,_⟩:=im Tryz.underlying3 t3
  obtain ⟨m,rfl,_,_⟩:=im Tryz.underlying3 t4
  exact ⟨⟨TA,t,tc,OA,o,oc,g,s,m⟩,rfl,ht,ho⟩
end
end Go.Proofs.YtoeoimhemojdeaaGreatDoor
namespace Go.Proofs.YtoeoimhemojdeaaGreatDoor
open Go.ChangeShapes Go.WideShapes Go.ChangeAt Go.RowKit Go.Deep
section
variable {H:Type} {enc:TypeId × Value→H} {P:Program} {w:World} {base:Nat} {spare:Nat→Bool} {held:Bool}
theorem jv {t:TypeId} {n:Nat} {v:Value} {x:DataW H × List MemPlace} (ht:P.underlying t=some .string) (h:DataW.trod enc P w base spare held n t [v]=some x) :
  ∃ s:ByteArray,v=.string s∧s.size≤9223372036854775807:=by
 obtain ⟨s,e,_,hs⟩:=DataW.trod_string ht h
 exact ⟨s,by simpa using e,by unfold maxLen at hs; exact hs⟩
end
section
variable {H:Type} {enc:TypeId × Value→H} {w:World} {base:Nat} {spare:Nat→Bool} {held:Bool}
end
end Go.Proofs.YtoeoimhemojdeaaGreatDoor
namespace Go.Proofs.YtoeoimhemojdeaaGreatDoor
open Go.ChangeShapes Go.WideShapes Go.ChangeAt Go.RowKit Go.Deep
section
variable {H:Type} {enc:TypeId × Value→H} {w:World} {base:Nat} {spare:Nat→Bool} {held:Bool}
theorem oC {P:Program} {t:TypeId} {b0:Nat} {r:Reach} {v:Value} {d:DataW H} {q:List MemPlace} (ht:P.underlying t=some .string) (hv:Value.okWide P w r b0 t v) (h:DataW.Trod enc P w base spare held t v d q) :
  ∃ s:ByteArray,v=.string s∧s.size≤9223372036854775807:=by
 obtain ⟨s,rfl⟩:=okWide_string ht hv
 obtain ⟨n,hn⟩:=h
 obtain ⟨s',e,_,hs⟩:=DataW.trod_string ht hn
 simp [Value.cells] at e
 subst e
 exact ⟨s,rfl,by unfold maxLen at hs; exact hs⟩
set_option maxRecDepth 20000 in
theorem so {b0:Nat} {r:Reach} {v:Value} {d:DataW H} {q:List MemPlace} (hv:Value.okWide Tryz.prog w r b0 9 v) (h:DataW.Trod enc Tryz.prog w base spare held 9 v d q) :
  ∃ s:ByteArray,v=.string s∧s.size≤9223372036854775807:=oC Tryz.underlying9 hv h
end
end Go.Proofs.YtoeoimhemojdeaaGreatDoor
namespace Go.Proofs.YtoeoimhemojdeaaGreatDoor
open Go.ChangeShapes Go.WideShapes Go.ChangeAt Go.RowKit Go.Deep
section
variable {H:Type} {enc:TypeId × Value→H} {w:World} {base:Nat} {spare:Nat→Bool} {held:Bool}
end
end Go.Proofs.YtoeoimhemojdeaaGreatDoor
namespace Go.Proofs.YtoeoimhemojdeaaGreatDoor
open Go.ChangeShapes Go.WideShapes Go.ChangeAt Go.RowKit Go.Deep
section
variable {H:Type} {enc:TypeId × Value→H} {w:World} {base:Nat} {spare:Nat→Bool} {held:Bool}
set_option maxRecDepth 20000 in
theorem tA {n:Nat} {cs:List Value} {x:DataW H × List MemPlace} (hn:DataW.trod enc Tryz.prog w base spare held n 23 cs=some x) :
  ∃ l:Lg,cs = [.string l.D,.string l.P,.int .i64 l.n]∧l.D.size≤9223372036854775807∧l.P.size≤9223372036854775807∧-9223372036854775808≤l.n∧l.n≤9223372036854775807:=by
 obtain ⟨hl,hf⟩:=gX Tryz.underlying23 (by kernel_rfl) (by kernel_rfl) hn
 match cs,hl with
 | [v0,v1,v2],_ =>
  obtain ⟨u0,_,_,e0,t0⟩:=hf 0 _ rfl
  obtain ⟨u1,_,_,e1,t1⟩:=hf 1 _ rfl
  obtain ⟨u2,_,_,e2,t2⟩:=hf 2 _ rfl
  simp only [List.getElem?_cons_zero,List.getElem?_cons_succ,Option.some.injEq] at e0 e1 e2
  subst e0; subst e1; subst e2
  obtain ⟨s0,rfl,z0⟩:=jv Tryz.underlying9 t0
  obtain ⟨s1,rfl,z1⟩:=jv Tryz.underlying9 t1
  obtain ⟨m,rfl,z2,z3⟩:=im Tryz.underlying3 t2
  exact ⟨⟨s0,s1,m⟩,rfl,z0,z1,z2,z3⟩
set_option maxRecDepth 20000 in
theorem oD {n:Nat} {cs:List Value} {x:DataW H × List MemPlace} (hn:DataW.trod enc Tryz.prog w base spare held n 35 cs=some x) :
  ∃ (p:aL) (l:Lg),cs=p.enc++[.string l.D,.string l.P,.int .i64 l.n]∧aM w w.heap.size p∧l.D.size≤9223372036854775807∧l.P.size≤9223372036854775807∧-9223372036854775808≤l.n∧l.n≤9223372036854775807:=by
 obtain ⟨ys,n',_,_,hlen,hyl,hf⟩:=DataW.trod_struct Tryz.underlying35 hn
 have e0:Tryz.prog.cellsOf 33=5:=by kernel_rfl
 have e1:Tryz.prog.cellsOf 23=3:=by kernel_rfl
 have e2:Tryz.prog.cellsOf 35=8:=by kernel_rfl
 have hyl2:ys.length=2:=hyl
 have h0:DataW.trod enc Tryz.prog w base spare held n' 33 ((cs.drop 0).take (Tryz.prog.cellsOf 33))=ys[0]?:=hf 0 _ rfl
 have h1:DataW.trod enc Tryz.prog w base spare held n' 23 ((cs.drop 5).take (Tryz.prog.cellsOf 23))=ys[1]?:=hf 1 _ rfl
 rw [e0,List.drop_zero,List.getElem?_eq_getElem (by omega)] at h0
 rw [e1,List.getElem?_eq_getElem (by omega)] at h1
 rw [e2] at hlen
 obtain ⟨p,hp,hr⟩:=lR h0
 obtain ⟨l,hL,z0,z1,z2,z3⟩:=tA h1
 refine ⟨p,l, ?_,hr,z0,z1,z2,z3⟩
 rw [List.take_of_length_le (by rw [List.length_drop]; omega)] at hL
 rw [← hp,← hL,List.take_append_drop]
set_option maxRecDepth 100000 in
theorem oE {b0:Nat} {r:Reach} {v:Value} {d:DataW H} {q:List MemPlace} (hv:Value.okWide Tryz.prog w r b0 35 v) (h:DataW.Trod enc Tryz.prog w base spare held 35 v d q) :
  ∃ (p:aL) (l:Lg),v=aD p l∧aM w w.heap.size p∧l.D.size≤9223372036854775807∧l.P.size≤9223372036854775807∧-9223372036854775808≤l.n∧l.n≤9223372036854775807:=by
 obtain ⟨cs,rfl,_⟩:=okWide_struct Tryz.underlying35 hv
 obtain ⟨n,hn⟩:=h
 obtain ⟨p,l,hp,hr⟩:=oD hn
 refine ⟨p,l, ?_,hr⟩
 have hp' : cs.toList=p.enc++[.string l.D,.string l.P,.int .i64 l.n]:=by simpa [Value.cells] using hp
 unfold aD
 rw [show cs=cs.toList.toArray from rfl,hp']; rfl
end
end Go.Proofs.YtoeoimhemojdeaaGreatDoor
