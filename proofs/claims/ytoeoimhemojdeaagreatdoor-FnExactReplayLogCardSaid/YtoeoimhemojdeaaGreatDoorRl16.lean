/- Rl16: the texts ReplS LawRepl OpenRec OpenText OpenLog, joined into one file. -/
import Derived.Deep.DeepCutAuto
import Derived.Test.YtoeoimhemojdeaaGreatDoorProg
import Derived.Test.YtoeoimhemojdeaaGreatDoorRl08
import Derived.Test.YtoeoimhemojdeaaGreatDoorRl09
import Derived.Test.YtoeoimhemojdeaaGreatDoorRl15

set_option linter.unusedVariables false
open Go.Value renaming int → O, slice → F, string → sQ
open Go.IntKind renaming i64 → U

namespace Go.Proofs.YtoeoimhemojdeaaGreatDoor
open Go.RowKit
set_option maxRecDepth 100000 in
set_option maxHeartbeats 8000000 in
theorem nI (n:Int) (l:Lg) (w:World) (hs:l.D.size+l.P.size≤2000000) :
  Calls Tryz.prog 10 #[O U n,l.val] w (ex w (o6 n l) (kG n l)):=by
 have b0:=(Below.refl w.heap.size w).alloc (Nat.le_refl _) (.cells #[sQ l.D,sQ l.P,O U l.n] 27)
 have L0:=ai.new w 27 #[sQ l.D,sQ l.P,O U l.n]
 have NW:=fun W=>o4 n W
 have hml:=mZ l (mi l)
 have HOK:=Lib.hid (fun h=>o7 (n:=n) h)
 obtain ⟨iR,hiR⟩ : ∃ iR,bI n 1 9999=iR:=⟨_,rfl⟩
 obtain ⟨oR,hoR⟩ : ∃ oR,l.ok=oR:=⟨_,rfl⟩
 obtain ⟨kR,hkR⟩ : ∃ kR,o6 n l=kR:=⟨_,rfl⟩
 obtain ⟨bR,hbR⟩ : ∃ bR,kG n l=bR:=⟨_,rfl⟩
 have HB:Hid (bR=(iR && oR)):=by rw [Hid,← hbR,← hiR,← hoR]; rfl
 have HK:Hid (kR=if bR then dw (jo l) (eU n) Lg.zero 0 else 0):=by rw [Hid,← hkR,← hbR]; rfl
 rw [hkR,hbR]
 rw [hiR] at NW HOK
 obtain ⟨y0,hy0⟩ : ∃ y0,eU n=y0:=⟨_,rfl⟩
 rw [hy0] at NW HK HOK
 have LG:=fun W=>iu l W hs
 rw [hoR] at LG
 clear hiR hkR hbR hy0
 have HO2:=Lib.hid hoR
 clear hoR
 go_enter Tryz.func10,Tryz.ntmps10
 go_wp2_with fail
 generalize w.alloc (.cells #[sQ l.D,sQ l.P,O U l.n] 27)=W at b0 L0 ⊢
 refine (NW W).mono ?_
 rintro e w1 ⟨TA,tc,OA,oc,rfl,hT1,hO1,hb1⟩
 have hal:=(Below.refl w1.heap.size w1).alloc (Nat.le_refl _) (.cells #[F TA y0.t.length tc,F OA y0.o.length oc,O U y0.got,O U y0.sold,O U y0.missed,sQ ⟨#[]⟩,sQ ⟨#[]⟩,O U 0] 42)
 have P2:=ai.new w1 42 #[F TA y0.t.length tc,F OA y0.o.length oc,O U y0.got,O U y0.sold,O U y0.missed,sQ ⟨#[]⟩,sQ ⟨#[]⟩,O U 0]
 have hb12:=ar hb1 hal
 have L2:=L0.below hb12 L0.lt
 have b2:=b0.trans (hb12.mono b0.size)
 have hT2:=ab hT1 hal
 have hO2:=ab hO1 hal
 have hgw:w.heap.size≤w1.heap.size:=Nat.le_trans b0.size hb1.size
 have hgl:w.heap.size < w1.heap.size:=Nat.lt_of_lt_of_le L0.lt hb1.size
 go_upto_region 2 with fail
 generalize w1.alloc (.cells #[F TA y0.t.length tc,F OA y0.o.length oc,O U y0.got,O U y0.sold,O U y0.missed,sQ ⟨#[]⟩,sQ ⟨#[]⟩,O U 0] 42)=w2 at P2 L2 b2 hT2 hO2 ⊢
 clear hal hb1 hb12 L0 b0 hT1 hO1 NW
 generalize w1.heap.size=gc at P2 hgw hgl ⊢
 have c0:=L2.cell 0
 have c1:=L2.cell 1
 have c2:=L2.cell 2
 simp only [List.getElem?_cons_zero,List.getElem?_cons_succ] at c0 c1 c2
 cases iR
 ·obtain rfl:bR=false:=HB.out
  go_wp2
  refine bodyPost_ret (v:=.tuple #[O U 0,.bool false]) (by simp [results,Tryz.results10,go_sem, *]) rfl (ex.mk HK.out rfl HB.out b2)
 ·go_wp2_with fail
  refine (LG w2).mono ?_
  rintro e w3 ⟨rfl,hb3⟩
  have L3:=L2.below hb3 L2.lt
  have P3:=P2.below hb3 P2.lt
  have b3:=b2.trans (hb3.mono b2.size)
  have hT3:=ab hT2 hb3
  have hO3:=ab hO2 hb3
  clear L2 P2 b2 hT2 hO2 hb3 LG c0 c1 c2
  cases oR
  ·obtain rfl:bR=false:=HB.out
   go_wp2
   refine bodyPost_ret (v:=.tuple #[O U 0,.bool false]) (by simp [results,Tryz.results10,go_sem, *]) rfl (ex.mk HK.out rfl HB.out b3)
  ·obtain rfl:bR=true:=HB.out
   have c0:=L3.cell 0
   have c1:=L3.cell 1
   have c2:=L3.cell 2
   simp only [List.getElem?_cons_zero,List.getElem?_cons_succ] at c0 c1 c2
   have hok0:=HOK.out (by trivial)
   have RC:=jy l w3 hs
   go_wp2_with fail
   refine RC.mono ?_
   rintro e w4 ⟨A4,c4,m,rfl,hm,hR4,hb4⟩
   rw [o5 hm] at hR4 ⊢
   have P4:=P3.below hb4 P3.lt
   have b4:=b3.trans (hb4.mono b3.size)
   have hT4:=ab hT3 hb4
   have hO4:=ab hO3 hb4
   have h34:=hb4.size
   have hgc:=P3.lt
   clear hm RC L3 P3 b3 hT3 hO3 hb4 c0 c1 c2 HOK HO2
   have HML:=Lib.hid (mo l)
   have hgc3:gc < w3.heap.size:=hgc
   generalize jo l=m at hml hR4 HK HML ⊢
   have HKR:Hid (kR=dw m y0 Lg.zero 0):=HK.out
   have hX0:Hid (aQ w4 w4.heap.size (y0.at TA tc OA oc)):=⟨aB hT4,aB hO4⟩
   have HP0:Hid (ai w4 gc 42 [F TA y0.t.length tc,F OA y0.o.length oc,O U y0.got,O U y0.sold,O U y0.missed,sQ ⟨#[]⟩,sQ ⟨#[]⟩,O U 0]):=P4
   have HR0:Hid (w4.ownsRow w3.heap.size 62 2 (F A4 m.length c4) m.length (m.flatMap da.enc)):=hR4
   have HG0:Hid (dw (m.drop 0) y0 Lg.zero 0=dw m y0 Lg.zero 0):=rfl
   have HOK0:Hid (qt (y0.at TA tc OA oc).c Lg.zero=true):=hok0
   clear hok0 hR4 P4 hT4 hO4 HK
   go_wp2_with fail
   go_loopw [10,11] (fun _ i wr=>∃ (k:Nat) (X:aM) (l1:Lg),k≤m.length∧i=O U k∧Hid (qt X.c l1=true)∧Hid (aQ wr wr.heap.size X)∧Hid (ai wr gc 42 [F X.TA X.t.length X.tc,F X.OA X.o.length X.oc,O U X.got,O U X.sold,O U X.missed,sQ l1.D,sQ l1.P,O U l1.n])∧Hid (wr.ownsRow w3.heap.size 62 2 (F A4 m.length c4) m.length (m.flatMap da.enc))∧Below w.heap.size w wr∧Hid (dw (m.drop k) X.c l1 k=dw m y0 Lg.zero 0)) (fun _ i _=>m.length - (intOf i).toNat)
   case atStart=>exact ⟨0,y0.at TA tc OA oc,Lg.zero,Nat.zero_le _,rfl,HOK0,hX0,HP0,HR0,b4,HG0⟩
   case round =>
    clear b4 hX0 HP0 HR0 HG0 HOK0
    obtain ⟨k,X,l1,hk,rfl,HOK,HX,HL,HR,hbr,HG⟩:=hrel
    by_cases hlt:k < m.length
    ·have hrr:=hQ.of HR.out
     obtain ⟨b,off,rfl,hb,hcell⟩:=hQ.cells hrr (by omega)
     have q0:=fun q=>(hcell k hlt q).1
     have q1:=fun q=>(hcell k hlt q).2
     have HY:=Lib.hid (fun h=>mj hlt (y:=X.c) (l:=l1) (i:=k) h)
     have HN:=Lib.hid (fun h=>m3 hlt (y:=X.c) (l:=l1) (i:=k) h)
     have hrz:=HML.out _ (List.getElem_mem hlt)
     obtain ⟨e,hee⟩ : ∃ e,e=m[k]:=⟨_,rfl⟩
     rw [← hee] at q0 q1 HY HN hrz
     have hee2:=Lib.hid hee
     clear hee hcell hrr
     have HS:=mW HOK.out
     obtain ⟨htl,hol,hdp⟩:=HS
     have L3:=HL.out
     have hX:=HX.out
     have hgL:=L3.lt
     have eT:=qw X l1 e.c
     have eO:=qu X l1 e.c
     have eL:=qv X l1 e.c
     have HOK2:=Lib.hid (qx e.c HOK.out)
     obtain ⟨rp,hrp⟩ : ∃ rp,ss X.c l1 e.c=rp:=⟨_,rfl⟩
     obtain ⟨y,hy⟩ : ∃ y,so X.c l1 e.c=y:=⟨_,rfl⟩
     obtain ⟨l2,hl2⟩ : ∃ l2,sq X.c l1 e.c=l2:=⟨_,rfl⟩
     rw [hy,hl2] at HOK2 HY
     rw [hrp] at eT HY HN
     rw [hy] at eO
     rw [hl2] at eL
     clear hrp hy hl2 HOK HL HX
     have EXc:=Lib.hid (fun W hW=>pT X l1 e.c W hW htl hol hdp hrz)
     have HY1:=Lib.hid eT
     have HY2':=Lib.hid eO
     have HY3:=Lib.hid eL
     clear eT eO eL
     go_upto_region 9 with fail
     refine an (Sw 10 (fun W9=>Below wr.heap.size wr W9) (fun W9=>∃ TB tb OB ob,Below w.heap.size w W9∧ai W9 gc 42 [F TB y.t.length tb,F OB y.o.length ob,O U y.got,O U y.sold,O U y.missed,sQ l2.D,sQ l2.P,O U l2.n]∧W9.ownsRow wr.heap.size 104 2 (F TB y.t.length tb) y.t.length (y.t.flatMap aq.enc)∧W9.ownsRow wr.heap.size 147 3 (F OB y.o.length ob) y.o.length (y.o.flatMap ae.enc)∧W9.ownsRow w3.heap.size 62 2 (F (some ⟨b,off,none⟩) m.length c4) m.length (m.flatMap da.enc))) (fun i w1 w2=>i ∉ [10]→Below w1.heap.size w1 w2) (by kernel_rfl) (by kernel_rfl) (by kernel_rfl) (Sw.start (Below.refl _ _).drew) ?_
     simp only [ax,Act.put,List.setIfInBounds_toArray,List.set_cons_zero,List.set_cons_succ,Nat.zero_add,Nat.reduceAdd]
     apply aa
     case h1 =>
      intro vs L9 w9 hG9 hC9 hB K9 hK9
      replace hC9:=sb hC9 hG9
      have q0:w9.cell? ⟨gc,0,none⟩=some (F X.TA X.t.length X.tc):=(L3.below hC9 L3.lt).cell 0
      have q1:w9.cell? ⟨gc,1,none⟩=some (F X.OA X.o.length X.oc):=(L3.below hC9 L3.lt).cell 1
      have q2:w9.cell? ⟨gc,2,none⟩=some (O U X.got):=(L3.below hC9 L3.lt).cell 2
      have q3:w9.cell? ⟨gc,3,none⟩=some (O U X.sold):=(L3.below hC9 L3.lt).cell 3
      have q4:w9.cell? ⟨gc,4,none⟩=some (O U X.missed):=(L3.below hC9 L3.lt).cell 4
      have q5:w9.cell? ⟨gc,5,none⟩=some (sQ l1.D):=(L3.below hC9 L3.lt).cell 5
      have q6:w9.cell? ⟨gc,6,none⟩=some (sQ l1.P):=(L3.below hC9 L3.lt).cell 6
      have q7:w9.cell? ⟨gc,7,none⟩=some (O U l1.n):=(L3.below hC9 L3.lt).cell 7
      simp only [Act.put,sA,s0,s1] at hK9
      go_simp
      exact hK9 _ _ rfl (sy hG9 hC9) bR
     apply aa
     case h1 =>
      intro vs L9 w9 hG9 hC9 hB K9 hK9
      replace hC9:=sb hC9 hG9
      simp only [Act.put,sA,s0,s1] at hK9
      go_simp
      exact hK9 _ _ rfl (sy hG9 hC9) bR
     apply aa
     case h1 =>
      intro vs L9 w9 hG9 hC9 hB K9 hK9
      replace hC9:=sb hC9 hG9
      simp only [Act.put,sA,s0,s1] at hK9
      go_simp
      exact hK9 _ _ rfl (sy hG9 hC9) bR
     apply aa
     case h1 =>
      intro vs L9 w9 hG9 hC9 hB K9 hK9
      replace hC9:=sb hC9 hG9
      have d1:=fe hB 1
      have d2:=fe hB 2
      simp only [d1,d2] at hK9 ⊢
      simp only [Act.put,sA,s0,s1] at hK9
      go_simp
      exact hK9 _ _ rfl (sy hG9 hC9) bR
     apply aa
     case h1 =>
      intro vs L9 w9 hG9 hC9 hB K9 hK9
      replace hC9:=sb hC9 hG9
      have d3:=fe hB 3
      simp only [d3] at hK9 ⊢
      simp only [Act.put,sA,s0,s1] at hK9
      go_simp
      exact hK9 _ _ rfl (sy hG9 hC9) bR
     apply aa
     case h1 =>
      intro vs L9 w9 hG9 hC9 hB K9 hK9
      replace hC9:=sb hC9 hG9
      have d4:=fe hB 4
      simp only [d4] at hK9 ⊢
      have q9:=q0 ⟨w9,hC9⟩
      simp only [Act.put,sA,s0,s1] at hK9
      go_simp
      exact hK9 _ _ rfl (sy hG9 hC9) bR
     refine ak [10] (fun v w9=>∃ TB tb OB ob,v=.tuple #[.agg #[F TB y.t.length tb,F OB y.o.length ob,O U y.got,O U y.sold,O U y.missed,sQ l2.D,sQ l2.P,O U l2.n],sQ rp]∧w9.ownsRow wr.heap.size 104 2 (F TB y.t.length tb) y.t.length (y.t.flatMap aq.enc)∧w9.ownsRow wr.heap.size 147 3 (F OB y.o.length ob) y.o.length (y.o.flatMap ae.enc)) ?_ (fun vs L9 w9 hG9 hC9 hB K9 hK9=>?_) ?_
     next =>
      intro i9 hi9 hb9 ha9 v w1 w2 hv hT9
      have hb:=hT9 (fun hm=>by
       simp only [List.mem_cons,List.not_mem_nil,or_false] at hm hb9
       subst hm
       ·exact hb9 (by simp))
      obtain ⟨TB,tb,OB,ob,e,q1,q2⟩:=hv
      exact ⟨TB,tb,OB,ob,e,ab q1 hb,ab q2 hb⟩
     next =>
      replace hC9:=sb hC9 hG9
      have d0:=fe hB 0
      have d5:=fe hB 5
      simp only [d0,d5] at hK9 ⊢
      simp only [Act.put,sA,s0,s1] at hK9
      go_simp
      refine (EXc.out w9 (hX.then hC9)).mono ?_
      rintro en w8 ⟨v,rfl,⟨TB,tb,OB,ob,rfl,h1,h2⟩,hb8⟩
      simp only [HY1.out,HY2'.out,HY3.out] at h1 h2 ⊢
      exact hK9 _ _ _ rfl ⟨TB,tb,OB,ob,rfl,af h1 hC9.size,af h2 hC9.size⟩ (Sw.stay hG9 (by kernel_rfl) (by decide) (hC9.trans (hb8.mono hC9.size))) (fun _=>hb8)
     refine bs [] 6 (fun u v _=>v=u∧∃ a:Value,u=.tuple #[a,sQ rp]) (by kernel_rfl) ?_ (fun vs L9 w9 hG9 hC9 hB K9 hK9=>?_) ?_
     next =>
      intro i9 hi9 hb9 ha9 u v w1 w2 hv hT9
      exact hv
     next =>
      replace hC9:=sb hC9 hG9
      obtain ⟨TB,tb,OB,ob,e0,h1,h2⟩:=fs hB 6
      simp only [e0] at hK9 ⊢
      go_simp
      exact hK9 _ _ _ rfl ⟨rfl,_,rfl⟩ (sy hG9 hC9) bR
     refine ak [10] (fun v w9=>∃ TB tb OB ob,v=.agg #[F TB y.t.length tb,F OB y.o.length ob,O U y.got,O U y.sold,O U y.missed,sQ l2.D,sQ l2.P,O U l2.n]∧w9.ownsRow wr.heap.size 104 2 (F TB y.t.length tb) y.t.length (y.t.flatMap aq.enc)∧w9.ownsRow wr.heap.size 147 3 (F OB y.o.length ob) y.o.length (y.o.flatMap ae.enc)) ?_ (fun vs L9 w9 hG9 hC9 hB K9 hK9=>?_) ?_
     next =>
      intro i9 hi9 hb9 ha9 v w1 w2 hv hT9
      have hb:=hT9 (fun hm=>by
       simp only [List.mem_cons,List.not_mem_nil,or_false] at hm hb9
       subst hm
       ·exact hb9 (by simp))
      obtain ⟨TB,tb,OB,ob,e,q1,q2⟩:=hv
      exact ⟨TB,tb,OB,ob,e,ab q1 hb,ab q2 hb⟩
     next =>
      replace hC9:=sb hC9 hG9
      simp only [Act.put,sA,s0,s1] at hK9
      obtain ⟨TB,tb,OB,ob,e0,h1,h2⟩:=fs hB 6
      simp only [e0] at hK9 ⊢
      obtain ⟨e6,_⟩:=fs hB 7
      simp only [e6,e0] at hK9 ⊢
      go_simp
      exact hK9 _ _ _ rfl ⟨TB,tb,OB,ob,rfl,h1,h2⟩ (sy hG9 hC9) bR
     refine aa (sQ rp) (fun vs L9 w9 hG9 hC9 hB K9 hK9=>?_) ?_
     next =>
      simp only [Act.put,sA,s0,s1] at hK9
      obtain ⟨e6,a,e5⟩:=fs hB 7
      simp only [e6,e5] at hK9 ⊢
      go_simp
      exact hK9 _ _ rfl (Sw.both (by decide) (fun h=>h) (fun h=>h) hC9) bR
     refine aa (undef) (fun vs L9 w9 hG9 hC9 hB K9 hK9=>?_) ?_
     next =>
      replace hC9:=hC9.here hG9
      obtain ⟨TB,tb,OB,ob,e0,h1,h2⟩:=fs hB 8
      simp only [e0] at hK9 ⊢
      have L4:=L3.below hC9 L3.lt
      obtain ⟨z0,z1,z2,z3,z4,z5,z6,z7⟩:=cells8 L4
      obtain ⟨f0,f1,f2,f3,f4,f5,f6,f7⟩:=frz8 L4
      have hb4:=hbr.trans (hC9.mono hbr.size)
      obtain ⟨W5,HW5,N5,b5,gr5⟩:=r5 (g:=gc) L4 hb4 hgw (F TB y.t.length tb) (F OB y.o.length ob) (O U y.got) (O U y.sold) (O U y.missed) (sQ l2.D) (sQ l2.P) (O U l2.n)
      have hI5:=Lib.hid (aj (ab HR.out hC9) L4 su gr5)
      have hR1:=Lib.hid (aj h1 L4 eN gr5)
      have hR2:=Lib.hid (aj h2 L4 eQ gr5)
      have HN5:=Lib.hid N5
      have HB5:=Lib.hid b5
      clear N5 b5 gr5 h1 h2 L4 hb4
      go_simp
      rw [HW5.out]
      exact hK9 _ _ rfl (Sw.turn ⟨TB,tb,OB,ob,HB5.out,HN5.out,hR1.out,hR2.out,hI5.out⟩) (fun hq=>(hq (by decide)).elim)
     apply aa
     case h1 =>
      intro vs L9 w9 hG9 hC9 hB K9 hK9
      replace hC9:=hC9.after hG9 (by kernel_rfl)
      have d9:=fe hB 9
      simp only [d9] at hK9 ⊢
      simp only [Act.put,sA,s0,s1] at hK9
      go_simp
      exact hK9 _ _ rfl (Sw.on hG9 (by kernel_rfl) hC9) bR
     refine az fun vs L9 w9 hL9 hC9 hB=>?_
     replace hC9:=hC9.done hL9 (by decide)
     obtain ⟨TB,tb,OB,ob,b7,N7,hT7,hO7,R7⟩:=hC9
     have d11:=ag.eq (hB 11 _ rfl rfl (by decide))
     simp only [d11]
     clear hB d11 hX L3 hgL HR hbr
     obtain ⟨w7,h79⟩ : ∃ z,z=w9:=⟨_,rfl⟩
     subst h79
     have hrr:=hQ.of R7
     obtain ⟨b',off',hbo,hb',hcell⟩:=hQ.cells hrr (by omega)
     injection hbo with hbo
     injection hbo with e1 e2
     subst e1; subst e2
     have d1:=(hcell k hlt ⟨w7,Below.refl _ _⟩).2
     have HEE:Hid (e=m[k]):=hee2
     rw [← HEE.out] at d1
     clear hcell hrr q0 q1
     have h5:Hid (aQ w7 w7.heap.size (y.at TB tb OB ob)):=⟨aB hT7,aB hO7⟩
     have h6:=Lib.hid N7
     have h7:=Lib.hid R7
     clear N7 R7 hT7 hO7
     by_cases hTe:rp=e.r
     ·have hne:(rp.toList != e.r.toList)=false:=by rw [hTe]; simp
      have HYY:=Lib.hid (HY.out hTe)
      have hne2:(e.r.toList != e.r.toList)=false:=by simp
      clear HN HY
      subst hTe
      go_wp2
      go_roundw
      case rel=>exact ⟨k+1,y.at TB tb OB ob,l2,by omega,by go_num,HOK2,h5,h6,h7,b7,by rw [Hid,← HG.out,HYY.out]; rfl⟩
      case measure=>simp [intOf]; omega
     ·have hne:=qz hTe
      have hne3:(rp.toList != e.r.toList)=true:=by unfold bne; rw [hne]; rfl
      have HN2:Hid (kR=k):=by rw [Hid,HKR.out,← HG.out,HN.out hTe]
      clear HN HY hTe
      go_wp2
      refine bodyPost_ret (v:=.tuple #[O U k,.bool true]) (by simp [results,Tryz.results10,go_sem, *]) rfl (ex.mk HN2.out rfl rfl b7)
    ·have hk0:m.drop k = []:=List.drop_eq_nil_of_le (by omega)
     have HG':=HG.out
     rw [hk0,dw] at HG'
     have HN2:Hid (kR=k):=by rw [Hid,HKR.out,← HG']
     have hkm:k=m.length:=by omega
     have HKM:Hid ((k:Int)=(m.length:Int)):=by rw [Hid,hkm]
     clear hk0 HG' HG hkm
     go_wp2
     refine bodyPost_ret (v:=.tuple #[O U m.length,.bool true]) (by simp [results,Tryz.results10,go_sem, *]) rfl (ex.mk HN2.out HKM.out rfl hbr)
set_option maxRecDepth 100000 in
set_option maxHeartbeats 4000000 in
theorem o9 (n:Int) (_h5 : -9223372036854775808≤n) (_h6:n≤9223372036854775807) (l:Lg) (w:World) (h1:l.D.size≤9223372036854775807) (h2:l.P.size≤9223372036854775807) (h3 : -9223372036854775808≤l.n) (h4:l.n≤9223372036854775807) (hLW:LW w) :
  Calls Tryz.prog 3 #[O U n,l.val] w fun en w'=>en=.returned (.bool true)∧Below w.heap.size w w':=by
 have b1:=(Below.refl w.heap.size w).alloc (Nat.le_refl _) (.cells #[sQ l.D,sQ l.P,O U l.n] 23)
 have L1:=ai.new w 23 #[sQ l.D,sQ l.P,O U l.n]
 by_cases hbig:(l.need:Int)≤1048576
 ·have HS:=Lib.hid (rQ hbig)
  have hs:l.D.size+l.P.size≤2000000:=by unfold Lg.need at hbig; omega
  have hn0:decide ((1048576:Int) - (l.need:Int) < 0)=false:=decide_eq_false (by omega)
  have cS:=Lib.hid (fun W=>nI n l W hs)
  have cI:=Lib.hid (fun W hW=>nH n l W hs hW)
  unfold ex at cS cI
  generalize o6 n l=r at cS cI
  generalize kG n l=ok at cS cI
  have hbo:(ok != ok)=false:=by simp
  have hbr:((r:Int) != (r:Int))=false:=by simp
  clear hbig
  go_enter Tryz.func3,Tryz.ntmps3
  go_wp2_with fail
  generalize w.alloc (.cells #[sQ l.D,sQ l.P,O U l.n] 23)=W at b1 L1 ⊢
  generalize hg:w.heap.size=g at L1 ⊢
  refine (kw l _ _ h1 h2 (by omega) (by omega)).mono ?_
  rintro en w1 ⟨rfl,hb1⟩
  rw [HS.out]
  have M1:=L1.below hb1 L1.lt
  have c0:=M1.cell 0
  have c1:=M1.cell 1
  have c2:=M1.cell 2
  simp only [List.getElem?_cons_zero,List.getElem?_cons_succ] at c0 c1 c2
  go_wp2_with fail
  refine (kx l _).mono ?_
  rintro en w2 ⟨rfl,hb2⟩
  have M2:=M1.below hb2 M1.lt
  go_wp2_with fail
  refine (cS.out _).mono ?_
  rintro en w3 ⟨rfl,hb3⟩
  have M3:=M2.below hb3 M2.lt
  have k3:Below w.heap.size w w3:=by rw [← hg] at *; exact ar b1 (ar hb1 (ar hb2 hb3))
  clear c0 c1 c2
  have c0:=M3.cell 0
  have c1:=M3.cell 1
  have c2:=M3.cell 2
  simp only [List.getElem?_cons_zero,List.getElem?_cons_succ] at c0 c1 c2
  go_wp2_with fail
  refine (kx l _).mono ?_
  rintro en w4 ⟨rfl,hb4⟩
  go_wp2_with fail
  refine (cI.out _ (hLW.then (ar k3 hb4))).mono ?_
  rintro en w5 ⟨rfl,hb5⟩
  have k5:Below w.heap.size w w5:=ar k3 (ar hb4 hb5)
  clear c0 c1 c2
  go_wp2
  refine bodyPost_ret (v:=.bool true) (by simp [results,Tryz.results3,go_sem, *]) rfl ⟨rfl, ?_⟩
  rw [hg] at k5 ⊢; exact k5
 ·have HS:=Lib.hid (rR hbig)
  clear hbig
  go_enter Tryz.func3,Tryz.ntmps3
  go_wp2_with fail
  refine (kw l _ _ h1 h2 (by omega) (by omega)).mono ?_
  rintro en w1 ⟨rfl,hb1⟩
  rw [HS.out]
  go_wp2
  go_ret
  exact ⟨rfl,ar b1 hb1⟩
end Go.Proofs.YtoeoimhemojdeaaGreatDoor
namespace Go.Proofs.YtoeoimhemojdeaaGreatDoor
open Go.ChangeShapes Go.WideShapes Go.ChangeAt Go.RowKit Go.Deep
section
variable {H:Type} {enc:TypeId × Value→H} {P:Program} {w:World} {base:Nat} {spare:Nat→Bool} {held:Bool}
theorem m5 {t:TypeId} {n:Nat} {v:Value} {x:DataW H × List MemPlace} (ht:P.underlying t=some .string) (h:DataW.trod enc P w base spare held n t [v]=some x) :
  ∃ s:ByteArray,v=.string s∧s.size≤9223372036854775807:=by
 obtain ⟨s,e,_,hs⟩:=DataW.trod_string ht h
 exact ⟨s,by simpa using e,by unfold maxLen at hs; exact hs⟩
end
section
variable {H:Type} {enc:TypeId × Value→H} {w:World} {base:Nat} {spare:Nat→Bool} {held:Bool}
end
end Go.Proofs.YtoeoimhemojdeaaGreatDoor
namespace Go.Proofs.YtoeoimhemojdeaaGreatDoor
open Go.ChangeShapes Go.WideShapes Go.ChangeAt Go.RowKit Go.Deep
section
variable {H:Type} {enc:TypeId × Value→H} {w:World} {base:Nat} {spare:Nat→Bool} {held:Bool}
end
end Go.Proofs.YtoeoimhemojdeaaGreatDoor
namespace Go.Proofs.YtoeoimhemojdeaaGreatDoor
open Go.ChangeShapes Go.WideShapes Go.ChangeAt Go.RowKit Go.Deep
section
variable {H:Type} {enc:TypeId × Value→H} {w:World} {base:Nat} {spare:Nat→Bool} {held:Bool}
set_option maxRecDepth 20000 in
theorem sa {b0:Nat} {r:Reach} {v:Value} {d:DataW H} {q:List MemPlace} (hv:Value.okWide Tryz.prog w r b0 23 v) (h:DataW.Trod enc Tryz.prog w base spare held 23 v d q) :
  ∃ l:Lg,v=l.val∧l.D.size≤9223372036854775807∧l.P.size≤9223372036854775807∧-9223372036854775808≤l.n∧l.n≤9223372036854775807:=by
 obtain ⟨cs,rfl,_⟩:=okWide_struct Tryz.underlying23 hv
 obtain ⟨n,hn⟩:=h
 obtain ⟨hl,hf⟩:=kW Tryz.underlying23 (by kernel_rfl) (by kernel_rfl) hn
 have hcs:(Value.agg cs).cells.toList=cs.toList:=by simp [Value.cells]
 rw [hcs] at hl hf
 obtain ⟨l,rfl⟩ : ∃ l:List Value,cs=l.toArray:=⟨cs.toList,by simp⟩
 simp only at hl hf
 match l,hl with
 | [v0,v1,v2],_ =>
  obtain ⟨u0,_,_,e0,t0⟩:=hf 0 _ rfl
  obtain ⟨u1,_,_,e1,t1⟩:=hf 1 _ rfl
  obtain ⟨u2,_,_,e2,t2⟩:=hf 2 _ rfl
  simp only [List.getElem?_cons_zero,List.getElem?_cons_succ,Option.some.injEq] at e0 e1 e2
  subst e0; subst e1; subst e2
  obtain ⟨s0,rfl,z0⟩:=m5 Tryz.underlying9 t0
  obtain ⟨s1,rfl,z1⟩:=m5 Tryz.underlying9 t1
  obtain ⟨m,rfl,z2,z3⟩:=oI Tryz.underlying3 t2
  exact ⟨⟨s0,s1,m⟩,rfl,z0,z1,z2,z3⟩
end
end Go.Proofs.YtoeoimhemojdeaaGreatDoor
