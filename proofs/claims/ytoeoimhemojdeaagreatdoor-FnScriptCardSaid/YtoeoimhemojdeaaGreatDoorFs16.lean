/- Lemmas. -/
import Derived.Test.YtoeoimhemojdeaaGreatDoorFs15

set_option linter.unusedVariables false
set_option linter.unusedSimpArgs false
set_option maxHeartbeats 8000000
open Go.Value renaming int → O, slice → F, string → wG
open Go.IntKind renaming i64 → U
open Go.Proofs.Tryz renaming prog → wH

namespace Go.Proofs.YtoeoimhemojdeaaGreatDoor
open Go.RowKit
def dq (W:World) (g:Nat) (v0 v1 v2 v3 v4:Value):World:=((((W.setCell ⟨g,0,none⟩ v0).setCell ⟨g,1,none⟩ v1).setCell ⟨g,2,none⟩ v2).setCell ⟨g,3,none⟩ v3).setCell ⟨g,4,none⟩ v4
section
variable {W:World} {g:Nat} {a b c d e v0 v1 v2 v3 v4:Value}
theorem eD (h:ai W g 40 [a,b,c,d,e]):ai (dq W g v0 v1 v2 v3 v4) g 40 [v0,v1,v2,v3,v4]:=((((h.set 0 v0).set 1 v1).set 2 v2).set 3 v3).set 4 v4
theorem eG:W.grownBy (dq W g v0 v1 v2 v3 v4) (some g):=ab (ab (ab (ab (ab (World.grownBy.refl W (some g))))))
theorem aR {B k n:Nat} {t:TypeId} {v:Value} {xs:List Value} (h:ai W g 40 [a,b,c,d,e]) (ho:W.ownsRow B t k v n xs) (wT:t ≠ 40):(dq W g v0 v1 v2 v3 v4).ownsRow B t k v n xs:=ak ho h wT eG
theorem cj {B:Nat} (h:ai W g 40 [a,b,c,d,e]) (hB:B≤g):Below B W (dq W g v0 v1 v2 v3 v4) :=
 (Below.refl B W).grown eG (Nat.le_of_lt (Nat.lt_of_le_of_lt hB h.lt)) (by rintro _ ⟨⟩; exact hB)
theorem mT {g' : Nat} {t:TypeId} {cs:List Value} (h:ai W g' t cs) (wT:g' ≠ g):ai (dq W g v0 v1 v2 v3 v4) g' t cs:=h.kept eG (by simpa using wT)
end
theorem eu.of {w w' : World} {e:Ending} {y:Oc} {TA OA:Option Addr} {tc oc m k:Nat} (hm:y.t.length=m) (hk:y.o.length=k) (he:e=.returned (.agg #[F TA m tc,F OA k oc,O U y.gt,O U y.sd,O U y.ms]))
  (h8:w'.ownsRow w.heap.size 104 2 (F TA m tc) y.t.length (y.t.flatMap aq.enc)) (h9:w'.ownsRow w.heap.size 147 3 (F OA k oc) y.o.length (y.o.flatMap ae.enc)) (hb:Below w.heap.size w w'):eu w y e w':=by
 subst hm; subst hk
 exact ⟨TA,tc,OA,oc,he,h8,h9,hb⟩
set_option maxRecDepth 100000 in
theorem tU (x:aO) (kd n:Int) (w:World) (h:aQ w w.heap.size x) (tl:x.t.length≤1000000) (ol:x.o.length≤1000000) (Bg:∀ i (hi:i < x.t.length), -1000000000≤x.t[i].c∧x.t[i].c≤1000000000) (hn : -1000000000≤n∧n≤1000000000) (hx:0≤ay x.t kd) :
  Calls wH 173 #[x.val,O U kd,O U n] w (eu w ⟨aj x.t kd n,x.o,x.gt,x.sd,x.ms⟩):=by
 obtain ⟨i,hi⟩ : ∃ i:Nat,ay x.t kd=i:=⟨(ay x.t kd).toNat,oM⟩
 have zm:i < x.t.length:=by have:=mb hx; omega
 have xZ:=io (n:=n) hi zm
 obtain ⟨n1,n2⟩:=hn
 obtain ⟨u1,u2⟩:=Bg i zm
 clear Bg hx
 obtain ⟨tr,yj⟩ : ∃ tr,tr=x.t[i]:=⟨_,rfl⟩
 rw [← yj] at xZ u1 u2
 have HI:=jZ xZ; clear xZ
 have L1:=(ai.new w 40 #[F x.TA x.t.length x.tc,F x.OA x.o.length x.oc,O U x.gt,O U x.sd,O U x.ms]).alloc (.cells #[F none 0 0,F none 0 0,O U 0,O U 0,O U 0] 40)
 have L2:=ai.new1 w (.cells #[F x.TA x.t.length x.tc,F x.OA x.o.length x.oc,O U x.gt,O U x.sd,O U x.ms] 40) 40 #[F none 0 0,F none 0 0,O U 0,O U 0,O U 0]
 have b1:=bZ w (.cells #[F x.TA x.t.length x.tc,F x.OA x.o.length x.oc,O U x.gt,O U x.sd,O U x.ms] 40)
 have b2:=b1.alloc b1.size (.cells #[F none 0 0,F none 0 0,O U 0,O U 0,O U 0] 40)
 clear b1
 go_enter Tryz.func173,Tryz.ntmps173
 go_wp2_with fail
 generalize ((w.alloc (.cells #[F x.TA x.t.length x.tc,F x.OA x.o.length x.oc,O U x.gt,O U x.sd,O U x.ms] 40)).alloc (.cells #[F none 0 0,F none 0 0,O U 0,O U 0,O U 0] 40))=W at L1 L2 b2 ⊢
 have hR:=h.up b2 nR
 refine (jv x W hR tl ol).mono ?_
 rintro e W2 ⟨TA,tc,OA,oc,he,hT,hO,wM⟩
 have he:e=.returned (.agg #[F TA x.t.length tc,F OA x.o.length oc,O U x.gt,O U x.sd,O U x.ms]):=he
 subst he
 simp only [aO.c] at hT hO
 have xA:=(L1.below wM L1.lt).alloc (.cells #[F TA x.t.length tc,F OA x.o.length oc,O U x.gt,O U x.sd,O U x.ms] 40)
 have xv:=(L2.below wM L2.lt).alloc (.cells #[F TA x.t.length tc,F OA x.o.length oc,O U x.gt,O U x.sd,O U x.ms] 40)
 have P1:=ai.new W2 40 #[F TA x.t.length tc,F OA x.o.length oc,O U x.gt,O U x.sd,O U x.ms]
 have wO:=(Below.refl W2.heap.size W2).alloc nR (.cells #[F TA x.t.length tc,F OA x.o.length oc,O U x.gt,O U x.sd,O U x.ms] 40)
 have xR:=ah (ac hT wO) b2.size
 have xp:=ah (ac hO wO) b2.size
 have b3:=b2.trans ((av wM wO).mono b2.size)
 have yu:=(hR.then wM).then wO
 have Hz:w.heap.size≤W2.heap.size:=jT b2.size wM.size
 have xu:w.heap.size+1 < W2.heap.size:=jL L2.lt wM.size
 obtain ⟨c0,c1,c2,c3,c4⟩:=cells5 xA
 clear L1 L2 b2 wM hT hO wO hR h
 obtain ⟨W3,xH⟩ : ∃ W3,W2.alloc (.cells #[F TA x.t.length tc,F OA x.o.length oc,O U x.gt,O U x.sd,O U x.ms] 40)=W3:=⟨_,rfl⟩
 rw [xH] at xA xv P1 xR xp b3 yu c0 c1 c2 c3 c4
 go_wp2_with (rw [xH])
 clear xH
 refine (bO x kd W3 yu).mono ?_
 rintro e W4 ⟨rfl,wV⟩
 rw [hi]
 obtain ⟨bA,off,hA,hbA,hcell⟩:=fX.el (yu.then wV).ts oM
 obtain ⟨e0,e1⟩:=hcell i zm
 rw [← yj] at e0 e1
 have KS:=jZ yj; clear yj hcell e0
 have yG:=xA.below wV xA.lt
 have yH:=xv.below wV xv.lt
 have P1b:=P1.below wV P1.lt
 have xt:=ac xR wV
 have xm:=ac xp wV
 have b4:=b3.trans (wV.mono b3.size)
 clear xA xv P1 xR xp b3 yu wV c0 c1 c2 c3 c4 hi
 obtain ⟨gT,cT,restT,hvT,hgT,LT,hcT⟩:=ch xt oM
 injection hvT with yO _ zw
 subst yO; subst zw
 have EH:aE W4 w.heap.size W2.heap.size (F (some ⟨gT,0,none⟩) x.t.length tc) (F OA x.o.length oc) ⟨x.t,x.o,x.gt,x.sd,x.ms⟩:=⟨P1b,Hz,xt,xm⟩
 simp only [hA] at yG
 have wT:=LT.apart yH dD
 have xq:(0:Int)≤(i:Int):=oM
 have NI:decide ((i:Int) ≥ 0)=true:=jD xq
 clear LT xt xm P1b hA
 go_wp2
 refine al (Sw 13 (fun W9=>Below W4.heap.size W4 W9) (fun W9=>∃ W8,Below W4.heap.size W4 W8∧W9=W8.setCell ⟨gT,i * 2+1,none⟩ (O U (tr.c+n)))) (fun i w1 w2=>i ∉ [13]→Below w1.heap.size w1 w2) kZ kZ kZ (Sw.start jB.drew) ?_
 simp only [ax,Act.put,sA,gs0,gs1,Nat.zero_add,Nat.reduceAdd]
 refine aa _ vb0 ?_
 refine aa _ (vb1c1 0 EH.lies 0) ?_
 refine aa _ vb0 ?_
 refine aa _ vb0 ?_
 refine aa _ (vb1c1 3 yG 0) ?_
 refine aa _ vb0 ?_
 refine aa _ (vb2 4 5) ?_
 refine aa _ (vb1 6) ?_
 refine aa _ (vb1s 7 e1) ?_
 refine aa _ vb0 ?_
 apply aa
 case h1 =>
  intro vs L9 w9 wK wI hB K9 wJ
  replace wI:=sb wI wK
  have d8:=fe hB 8
  have d9:=fe hB 9
  simp only [d8,d9] at wJ ⊢
  have i3:IntKind.i64.wrap (tr.c+n)=tr.c+n:=IntWalk.i64_in _ oM
  simp only [Act.put,sA,gs0,gs1] at wJ
  go_simp
  exact wJ _ _ rfl (sy wK wI) bR
 refine aa _ (vb2 1 2) ?_
 refine aa _ (vb1 11) ?_
 refine aa (undef) (fun vs L9 w9 wK wI hB K9 wJ=>?ha13) ?ra13
 case ha13 =>
  replace wI:=wI.here wK
  have d10:=fe hB 10
  have d12:=fe hB 12
  simp only [d10,d12] at wJ ⊢
  obtain ⟨_,_,q0,f0⟩:=aE.setT' (y:=⟨x.t,x.o,x.gt,x.sd,x.ms⟩) (EH.then wI) zm tr KS.out.symm (tr.c+n)
  go_simp
  exact wJ _ _ rfl (Sw.turn ⟨w9,wI,rfl⟩) nq
 refine ar fun vs L9 w9 wS wI hB=>?_
 replace wI:=wI.done wS dD
 obtain ⟨W8,wL,rfl⟩:=wI
 clear hB wS
 obtain ⟨CR,hb10,_,_⟩:=aE.setT' (y:=⟨x.t,x.o,x.gt,x.sd,x.ms⟩) (EH.then wL) zm tr KS.out.symm (tr.c+n)
 have b10:=(b4.trans (wL.mono b4.size)).trans hb10
 have yR:=(yH.below wL yH.lt).other (p:=⟨gT,i * 2+1,none⟩) (Ne.symm wT) (O U (tr.c+n))
 generalize W8.setCell ⟨gT,i * 2+1,none⟩ (O U (tr.c+n))=W9 at CR b10 yR ⊢
 have P9:=CR.lies
 have zk:=aR (v0:=F (some ⟨gT,0,none⟩) x.t.length tc) (v1:=F OA x.o.length oc) (v2:=O U x.gt) (v3:=O U x.sd) (v4:=O U x.ms) yR CR.t cd
 have Eo:=aR (v0:=F (some ⟨gT,0,none⟩) x.t.length tc) (v1:=F OA x.o.length oc) (v2:=O U x.gt) (v3:=O U x.sd) (v4:=O U x.ms) yR CR.o ci
 have bz:=b10.trans (cj (v0:=F (some ⟨gT,0,none⟩) x.t.length tc) (v1:=F OA x.o.length oc) (v2:=O U x.gt) (v3:=O U x.sd) (v4:=O U x.ms) yR (Nat.le_succ _))
 have R8:=jZ zk
 have R9:=jZ Eo
 obtain ⟨c0,c1,c2,c3,c4⟩:=cells5 P9
 obtain ⟨z0,z1,z2,z3,z4⟩:=cells5 yR
 obtain ⟨f0,f1,f2,f3,f4⟩:=frz5 yR
 clear zk Eo CR hb10 P9 yR
 go_wp2
 refine bodyPost_ret (v:=.agg #[F (some ⟨gT,0,none⟩) x.t.length tc,F OA x.o.length oc,O U x.gt,O U x.sd,O U x.ms]) (by simp [results,Tryz.results173,go_sem, *]) rfl ?_
 rw [HI.out]
 exact eu.of (List.length_set ..) rfl rfl R8.out R9.out bz
theorem tV {l:List aq} {kd:Int} {k:Nat} (h:k < l.length):dI (l.drop k) kd=if l[k].k < kd then dI (l.drop (k+1)) kd+1 else 0:=by
 rw [List.drop_eq_getElem_cons h,kz]
theorem oY {ts:List aq} {kd n:Int} (h : ¬ 0≤ay ts kd):aj ts kd n=(ts.take (dI ts kd)++[⟨kd,n⟩])++ts.drop (dI ts kd):=by
 unfold aj; rw [if_neg h,List.append_assoc]; rfl
theorem gJ:(wH.info? 104).map (·.size)=some 2:=kZ
set_option maxRecDepth 100000 in
theorem tW (x:aO) (kd n:Int) (w:World) (h:aQ w w.heap.size x) (tl:x.t.length≤1000000) (ol:x.o.length≤1000000) (Bg:∀ i (hi:i < x.t.length), -1000000000≤x.t[i].c∧x.t[i].c≤1000000000) (hn : -1000000000≤n∧n≤1000000000) (hx : ¬ 0≤ay x.t kd) (wX:x.t.length≤x.tc) :
  Calls wH 173 #[x.val,O U kd,O U n] w (eu w ⟨aj x.t kd n,x.o,x.gt,x.sd,x.ms⟩):=by
 obtain ⟨n1,n2⟩:=hn
 clear Bg
 have KT:=jZ (oY (n:=n) hx)
 have L1:=(ai.new w 40 #[F x.TA x.t.length x.tc,F x.OA x.o.length x.oc,O U x.gt,O U x.sd,O U x.ms]).alloc (.cells #[F none 0 0,F none 0 0,O U 0,O U 0,O U 0] 40)
 have L2:=ai.new1 w (.cells #[F x.TA x.t.length x.tc,F x.OA x.o.length x.oc,O U x.gt,O U x.sd,O U x.ms] 40) 40 #[F none 0 0,F none 0 0,O U 0,O U 0,O U 0]
 have b1:=bZ w (.cells #[F x.TA x.t.length x.tc,F x.OA x.o.length x.oc,O U x.gt,O U x.sd,O U x.ms] 40)
 have b2:=b1.alloc b1.size (.cells #[F none 0 0,F none 0 0,O U 0,O U 0,O U 0] 40)
 clear b1
 go_enter Tryz.func173,Tryz.ntmps173
 go_wp2_with fail
 generalize ((w.alloc (.cells #[F x.TA x.t.length x.tc,F x.OA x.o.length x.oc,O U x.gt,O U x.sd,O U x.ms] 40)).alloc (.cells #[F none 0 0,F none 0 0,O U 0,O U 0,O U 0] 40))=W at L1 L2 b2 ⊢
 have hR:=h.up b2 nR
 refine (jv x W hR tl ol).mono ?_
 rintro e W2 ⟨TA,tc,OA,oc,he,hT,hO,wM⟩
 have he:e=.returned (.agg #[F TA x.t.length tc,F OA x.o.length oc,O U x.gt,O U x.sd,O U x.ms]):=he
 subst he
 simp only [aO.c] at hT hO
 have xA:=(L1.below wM L1.lt).alloc (.cells #[F TA x.t.length tc,F OA x.o.length oc,O U x.gt,O U x.sd,O U x.ms] 40)
 have xv:=(L2.below wM L2.lt).alloc (.cells #[F TA x.t.length tc,F OA x.o.length oc,O U x.gt,O U x.sd,O U x.ms] 40)
 have P1:=ai.new W2 40 #[F TA x.t.length tc,F OA x.o.length oc,O U x.gt,O U x.sd,O U x.ms]
 have wO:=(Below.refl W2.heap.size W2).alloc nR (.cells #[F TA x.t.length tc,F OA x.o.length oc,O U x.gt,O U x.sd,O U x.ms] 40)
 have xR:=ah (ac hT wO) b2.size
 have xp:=ah (ac hO wO) b2.size
 have b3:=b2.trans ((av wM wO).mono b2.size)
 have yu:=(hR.then wM).then wO
 have Hz:w.heap.size≤W2.heap.size:=jT b2.size wM.size
 have xu:w.heap.size+1 < W2.heap.size:=jL L2.lt wM.size
 obtain ⟨c0,c1,c2,c3,c4⟩:=cells5 xA
 clear L1 L2 b2 wM hT hO wO hR h
 obtain ⟨W3,xH⟩ : ∃ W3,W2.alloc (.cells #[F TA x.t.length tc,F OA x.o.length oc,O U x.gt,O U x.sd,O U x.ms] 40)=W3:=⟨_,rfl⟩
 rw [xH] at xA xv P1 xR xp b3 yu c0 c1 c2 c3 c4
 go_wp2_with (rw [xH])
 clear xH
 refine (bO x kd W3 yu).mono ?_
 rintro e W4 ⟨rfl,wV⟩
 have yG:=xA.below wV xA.lt
 have yH:=xv.below wV xv.lt
 have P1b:=P1.below wV P1.lt
 have xm:=ac xp wV
 have b4:=b3.trans (wV.mono b3.size)
 have Bm:=yu.then wV
 have NJ:decide (ay x.t kd ≥ 0)=false:=jE oM
 have NK:ay x.t kd < 0:=oM
 clear xA xv P1 xR xp b3 yu wV c0 c1 c2 c3 c4 hx
 have c0:=yG.cell 0
 simp only [List.getElem?_cons_zero] at c0
 have hl:=Bm.ts.big
 go_wp2
 go_loopw [9] (fun v wr=>∃ k:Nat,k≤x.t.length∧v=O U (k:Int)∧wr=W4∧Hid (k+dI (x.t.drop k) kd=dI x.t kd)) (fun v _=>x.t.length - (intOf v).toNat)
 case atStart=>exact ⟨0,Nat.zero_le _,rfl,rfl,by unfold Hid; simp⟩
 case round =>
  obtain ⟨k,hk,rfl,Ia,HP⟩:=hrel
  subst wr
  have DO:k≤9223372036854775807:=jT hk hl
  by_cases wQ:k < x.t.length
  ·obtain ⟨bA,off,hA,hbA,hcell⟩:=fX.el Bm.ts oM
   obtain ⟨e0,_⟩:=hcell k wQ
   have e0:W4.cell? ⟨bA,off+k * 2,none⟩=some (O U x.t[k].k):=e0 (ap.start _ _)
   have HS:=jZ (tV (kd:=kd) wQ)
   obtain ⟨tk,KU⟩ : ∃ tk,tk=x.t[k].k:=⟨_,rfl⟩
   rw [← KU] at e0 HS
   clear KU hcell
   have Mp:(k:Int) < (x.t.length:Int):=oM
   by_cases hm:tk < kd
   ·have HN:Hid (k+1+dI (x.t.drop (k+1)) kd=dI x.t kd):=by unfold Hid; rw [← HP.out,HS.out,if_pos hm]; omega
    simp only [hA] at c0
    have Jm:=jZ hA
    clear hA
    go_wp2
    go_roundw
    case rel=>exact ⟨k+1,oM,by go_num,trivial,HN⟩
    case measure=>simp [intOf]; omega
   ·have HK:Hid (dI x.t kd=k):=by unfold Hid; rw [← HP.out,HS.out,if_neg hm]; rfl
    clear HP HS
    have Jm:=jZ hA
    have c0':=jZ c0
    simp only [hA] at c0
    clear hA
    go_wp2
    clear c0
    have c0:=c0'.out
    clear c0' hm e0
    refine al (Sw 17 (fun W9=>Below W4.heap.size W4 W9) (fun W9=>∃ W8 A c,Below W4.heap.size W4 W8∧W8.ownsRow W4.heap.size 104 2 (F A (k+1+(x.t.length - k)) c) (k+1+(x.t.length - k)) (((x.t.flatMap aq.enc).take (k * 2)++[O U kd,O U n])++(x.t.flatMap aq.enc).drop (k * 2))∧W9=W8.setCell ⟨W2.heap.size,0,none⟩ (F A (k+1+(x.t.length - k)) c))) (fun i w1 w2=>i ∉ [10,15,17]→Below w1.heap.size w1 w2) kZ kZ kZ (Sw.start jB.drew) ?_
    simp only [ax,Act.put,sA,gs0,gs1,Nat.zero_add,Nat.reduceAdd]
    refine af [10,15,17] (fun v w9=>∃ g,v=F (some ⟨g,0,none⟩) 0 0∧W4.heap.size≤g∧ai w9 g 104 []) ?sb0 (fun vs L9 w9 wK wI hB K9 wJ=>?hb0) ?rb0
    case sb0 =>
     intro i9 xG hb9 ha9 v w1 w2 hv xj
     have hb:=xj (fun hm=>by
      simp only [mC,mN,oF] at hm hb9
      rcases hm with rfl | rfl | rfl
      ·exact hb9 sP
      ·exact hb9 sP
      ·exact hb9 sP)
     obtain ⟨g,e,hg,hl⟩:=hv
     exact ⟨g,e,hg,hl.below hb hl.lt⟩
    case hb0 =>
     replace wI:=sb wI wK
     simp only [Act.put,sA,gs0,gs1] at wJ
     go_simp
     exact wJ _ _ _ rfl ⟨_,rfl,wI.size,ai.new w9 104 #[]⟩ (Sw.stay wK kZ dD (wI.alloc wI.size _)) (fun _=>jB.alloc nR _)
    refine aa _ vb0 ?_
    refine aa _ (vb1c1 1 yG 0) ?_
    refine aa _ vb0 ?_
    apply aa
    case h1 =>
     intro vs L9 w9 wK wI hB K9 wJ
     replace wI:=sb wI wK
     have d2:=fe hB 2
     have d3:=fe hB 3
     simp only [d2,d3] at wJ ⊢
     simp only [Act.put,sA,gs0,gs1] at wJ
     refine lG rfl 37 104 (.tmp 50) (.tmp 51) rfl Tryz.underlying37 2 gJ x.TA x.t.length x.tc k (by rfl) (by rfl) hk wX ?_
     exact wJ _ _ rfl (sy wK wI) bR
    refine af [10,15,17] (fun v w9=>∃ A c,v=F A (k) c∧w9.ownsRow W4.heap.size 104 2 (F A (k) c) (k) ((x.t.flatMap aq.enc).take (k * 2))) ?sb5 (fun vs L9 w9 wK wI hB K9 wJ=>?hb5) ?rb5
    case sb5 =>
     intro i9 xG hb9 ha9 v w1 w2 hv xj
     have hb:=xj (fun hm=>by
      simp only [mC,mN,oF] at hm hb9
      rcases hm with rfl | rfl | rfl
      ·exact hb9 sP
      ·exact hb9 sP
      ·exact hb9 sP)
     obtain ⟨A,c,e,ho⟩:=hv
     exact ⟨A,c,e,ac ho hb⟩
    case hb5 =>
     replace wI:=sb wI wK
     have d4:=fe hB 4
     simp only [d4] at wJ ⊢
     simp only [Act.put,sA,gs0,gs1] at wJ
     obtain ⟨g,e0,hg,hl⟩:=fs hB 0
     simp only [e0] at wJ ⊢
     refine lF rfl (.tmp 48) (.tmp 52) 37 rfl 104 _ 2 16 Tryz.underlying37 dR rfl oM oM W4.heap.size g (by rfl) hl hg W4.heap.size x.TA k x.tc _ (by rfl) (bm.take (bm.below Bm.ts wI) k hk) (fun u hu=>eJ u (List.mem_of_mem_take hu)) oM ?_
     intro v' w' ho hb
     obtain ⟨A',c',rfl⟩:=az ho
     exact wJ _ _ _ rfl ⟨A',c',rfl,ho⟩ (Sw.stay wK kZ dD (wI.trans (hb.mono wI.size))) (fun _=>hb)
    refine aa _ vb0 ?_
    refine aa _ vb0 ?_
    refine aa _ (vb2 6 7) ?_
    refine af [10,15,17] (fun v w9=>∃ g c,v=F (some ⟨g,0,none⟩) 1 c∧ai w9 g 104 [O U kd,O U n]) ?sb9 (fun vs L9 w9 wK wI hB K9 wJ=>?hb9) ?rb9
    case sb9 =>
     intro i9 xG hb9 ha9 v w1 w2 hv xj
     have hb:=xj (fun hm=>by
      simp only [mC,mN,oF] at hm hb9
      rcases hm with rfl | rfl | rfl
      ·exact hb9 sP
      ·exact hb9 sP
      ·exact hb9 sP)
     obtain ⟨g,c,e,hl⟩:=hv
     exact ⟨g,c,e,hl.below hb hl.lt⟩
    case hb9 =>
     replace wI:=sb wI wK
     have d8:=fe hB 8
     simp only [d8] at wJ ⊢
     simp only [Act.put,sA,gs0,gs1] at wJ
     go_simp
     exact wJ _ _ _ rfl ⟨_,_,rfl,ai.new w9 104 #[O U kd,O U n]⟩ (Sw.stay wK kZ dD (wI.alloc wI.size _)) (fun _=>jB.alloc nR _)
    refine af [15,17] (fun v w9=>∃ A c,v=F A (k+1) c∧w9.ownsRow W4.heap.size 104 2 (F A (k+1) c) (k+1) ((x.t.flatMap aq.enc).take (k * 2)++[O U kd,O U n])) ?sb10 (fun vs L9 w9 wK wI hB K9 wJ=>?hb10) ?rb10
    case sb10 =>
     intro i9 xG hb9 ha9 v w1 w2 hv xj
     have hb:=xj (fun hm=>by
      simp only [mC,mN,oF] at hm hb9
      rcases hm with rfl | rfl | rfl
      ·exact xG rfl
      ·exact hb9 sP
      ·exact hb9 sP)
     obtain ⟨A,c,e,ho⟩:=hv
     exact ⟨A,c,e,ac ho hb⟩
    case hb10 =>
     replace wI:=sb wI wK
     simp only [Act.put,sA,gs0,gs1] at wJ
     obtain ⟨A,c,e5,ho⟩:=fs hB 5
     obtain ⟨g,c9,e9,hl⟩:=fs hB 9
     simp only [e5,e9] at wJ ⊢
     refine jh rfl (.tmp 53) (.tmp 57) 37 rfl 104 _ 2 16 Tryz.underlying37 dR rfl oM oM W4.heap.size _ k _ (by rfl) ho w9.heap.size (some ⟨g,0,none⟩) 1 c9 [O U kd,O U n] (by rfl) (hl.reads rfl oM) (by simp [Value.oneCell']) oM wI.size ?_
     intro A' c' w' ho' _ hb
     exact wJ _ _ _ rfl ⟨A',c',rfl,ho'⟩ (Sw.stay wK kZ dD (wI.trans hb)) nq
    refine aa _ vb0 ?_
    refine aa _ (vb1c1 11 yG 0) ?_
    refine aa _ vb0 ?_
    refine af [] (fun v w9=>∃ A,v=F A (x.t.length - k) (x.tc - k)∧∀ W9,Below W4.heap.size W4 W9→bm W9 W4.heap.size 2 A (x.t.length - k) ((x.t.flatMap aq.enc).drop (k * 2))) ?sb14 (fun vs L9 w9 wK wI hB K9 wJ=>?hb14) ?rb14
    case sb14 =>
     intro i9 xG hb9 ha9 v w1 w2 hv xj
     exact hv
    case hb14 =>
     replace wI:=sb wI wK
     have d12:=fe hB 12
     have d13:=fe hB 13
     simp only [d12,d13] at wJ ⊢
     simp only [Act.put,sA,gs0,gs1] at wJ
     refine ke rfl 37 104 (.tmp 60) (.tmp 61) rfl Tryz.underlying37 2 gJ x.TA x.t.length x.tc k (by rfl) (by rfl) hk wX ?_
     intro A' xx
     exact wJ _ _ _ rfl ⟨A',rfl,fun W9 hW=>xx _ _ _ (bm.below Bm.ts hW)⟩ (sy wK wI) bR
    refine af [17] (fun v w9=>∃ A c,v=F A (k+1+(x.t.length - k)) c∧w9.ownsRow W4.heap.size 104 2 (F A (k+1+(x.t.length - k)) c) (k+1+(x.t.length - k)) (((x.t.flatMap aq.enc).take (k * 2)++[O U kd,O U n])++(x.t.flatMap aq.enc).drop (k * 2))) ?sb15 (fun vs L9 w9 wK wI hB K9 wJ=>?hb15) ?rb15
    case sb15 =>
     intro i9 xG hb9 ha9 v w1 w2 hv xj
     have hb:=xj (fun hm=>by
      simp only [mC,mN,oF] at hm hb9
      rcases hm with rfl | rfl | rfl
      ·exact absurd (ha9.symm.trans (show bU .any _ _ _ _=true by kernel_rfl)) dD
      ·exact xG rfl
      ·exact hb9 sP)
     obtain ⟨A,c,e,ho⟩:=hv
     exact ⟨A,c,e,ac ho hb⟩
    case hb15 =>
     replace wI:=sb wI wK
     simp only [Act.put,sA,gs0,gs1] at wJ
     obtain ⟨A,c,e10,ho⟩:=fs hB 10
     obtain ⟨A14,e14,hr⟩:=fs hB 14
     simp only [e10,e14] at wJ ⊢
     refine jh rfl (.tmp 58) (.tmp 62) 37 rfl 104 _ 2 16 Tryz.underlying37 dR rfl oM oM W4.heap.size _ (k+1) _ (by rfl) ho W4.heap.size A14 (x.t.length - k) (x.tc - k) _ (by rfl) (hr w9 wI) (fun u hu=>eJ u (List.mem_of_mem_drop hu)) oM wI.size ?_
     intro A' c' w' ho' _ hb
     exact wJ _ _ _ rfl ⟨A',c',rfl,ho'⟩ (Sw.stay wK kZ dD (wI.trans hb)) nq
    refine aa _ vb0 ?_
    refine aa (undef) (fun vs L9 w9 wK wI hB K9 wJ=>?hb17) ?rb17
    case hb17 =>
     replace wI:=wI.here wK
     have d16:=fe hB 16
     simp only [d16] at wJ ⊢
     obtain ⟨A,c,e15,ho⟩:=fs hB 15
     simp only [e15] at wJ ⊢
     have P9:=P1b.below wI P1b.lt
     have q0:=P9.cell 0
     have f0:=P9.frozen 0
     simp only [List.getElem?_cons_zero] at q0
     have ho:=jZ ho
     go_simp
     exact wJ _ _ rfl (Sw.turn ⟨w9,A,c,wI,ho.out,rfl⟩) nq
    refine ar fun vs L9 w9 wS wI hB=>?_
    replace wI:=wI.done wS dD
    obtain ⟨W8,A,c,wL,Cb,rfl⟩:=wI
    clear hB wS
    have P8:=P1b.below wL P1b.lt
    have hoT:=am Cb P8 cd 0 (F A (k+1+(x.t.length - k)) c)
    have hoO:=am (ac xm wL) P8 ci 0 (F A (k+1+(x.t.length - k)) c)
    have P9:=P8.set 0 (F A (k+1+(x.t.length - k)) c)
    have yR:=(yH.below wL yH.lt).other (p:=⟨W2.heap.size,0,none⟩) (by simp; omega) (F A (k+1+(x.t.length - k)) c)
    have b9:=(b4.trans (wL.mono b4.size)).setCell (p:=⟨W2.heap.size,0,none⟩) Hz (F A (k+1+(x.t.length - k)) c)
    have hoT:=ah hoT b4.size
    generalize W8.setCell ⟨W2.heap.size,0,none⟩ (F A (k+1+(x.t.length - k)) c)=W9 at hoT hoO P9 yR b9 ⊢
    have HT:=jZ (aR (v0:=F A (k+1+(x.t.length - k)) c) (v1:=F OA x.o.length oc) (v2:=O U x.gt) (v3:=O U x.sd) (v4:=O U x.ms) yR hoT cd)
    have HO:=jZ (aR (v0:=F A (k+1+(x.t.length - k)) c) (v1:=F OA x.o.length oc) (v2:=O U x.gt) (v3:=O U x.sd) (v4:=O U x.ms) yR hoO ci)
    have bz:=b9.trans (cj (v0:=F A (k+1+(x.t.length - k)) c) (v1:=F OA x.o.length oc) (v2:=O U x.gt) (v3:=O U x.sd) (v4:=O U x.ms) yR (Nat.le_succ _))
    simp only [List.set_cons_zero] at P9
    obtain ⟨k0,k1,k2,k3,k4⟩:=cells5 P9
    obtain ⟨z0,z1,z2,z3,z4⟩:=cells5 yR
    obtain ⟨f0,f1,f2,f3,f4⟩:=frz5 yR
    clear hoT hoO P9 P8 yR Cb c0
    go_wp2
    refine bodyPost_ret (v:=.agg #[F A (k+1+(x.t.length - k)) c,F OA x.o.length oc,O U x.gt,O U x.sd,O U x.ms]) (by simp [results,Tryz.results173,go_sem, *]) rfl ?_
    rw [KT.out,HK.out]
    have wR:((x.t.take k++[(⟨kd,n⟩ : aq)])++x.t.drop k).length=k+1+(x.t.length - k):=by
     rw [List.length_append,List.length_append,List.length_take,List.length_drop,List.length_singleton,Nat.min_eq_left hk]
    have yi:(((x.t.take k++[(⟨kd,n⟩ : aq)])++x.t.drop k).flatMap aq.enc)=(((x.t.flatMap aq.enc).take (k * 2)++[O U kd,O U n])++(x.t.flatMap aq.enc).drop (k * 2)):=by
     rw [List.flatMap_append,List.flatMap_append,jf aq.enc 2 aq.enc_len,jg aq.enc 2 aq.enc_len]
     rfl
    exact eu.of wR rfl rfl (by rw [wR,yi]; exact HT.out) HO.out bz
  ·have Gp:k=x.t.length:=oM
   have HK:Hid (dI x.t kd=k):=by unfold Hid; rw [← HP.out,List.drop_eq_nil_of_le oM]; rfl
   clear HP
   have NL : ¬ (k:Int) < (x.t.length:Int):=oM
   have Hke:=jZ Gp; clear Gp
   go_wp2
   refine al (Sw 17 (fun W9=>Below W4.heap.size W4 W9) (fun W9=>∃ W8 A c,Below W4.heap.size W4 W8∧W8.ownsRow W4.heap.size 104 2 (F A (k+1+(x.t.length - k)) c) (k+1+(x.t.length - k)) (((x.t.flatMap aq.enc).take (k * 2)++[O U kd,O U n])++(x.t.flatMap aq.enc).drop (k * 2))∧W9=W8.setCell ⟨W2.heap.size,0,none⟩ (F A (k+1+(x.t.length - k)) c))) (fun i w1 w2=>i ∉ [10,15,17]→Below w1.heap.size w1 w2) kZ kZ kZ (Sw.start jB.drew) ?_
   simp only [ax,Act.put,sA,gs0,gs1,Nat.zero_add,Nat.reduceAdd]
   refine af [10,15,17] (fun v w9=>∃ g,v=F (some ⟨g,0,none⟩) 0 0∧W4.heap.size≤g∧ai w9 g 104 []) ?sc0 (fun vs L9 w9 wK wI hB K9 wJ=>?hc0) ?rc0
   case sc0 =>
    intro i9 xG hb9 ha9 v w1 w2 hv xj
    have hb:=xj (fun hm=>by
     simp only [mC,mN,oF] at hm hb9
     rcases hm with rfl | rfl | rfl
     ·exact hb9 sP
     ·exact hb9 sP
     ·exact hb9 sP)
    obtain ⟨g,e,hg,hl⟩:=hv
    exact ⟨g,e,hg,hl.below hb hl.lt⟩
   case hc0 =>
    replace wI:=sb wI wK
    simp only [Act.put,sA,gs0,gs1] at wJ
    go_simp
    exact wJ _ _ _ rfl ⟨_,rfl,wI.size,ai.new w9 104 #[]⟩ (Sw.stay wK kZ dD (wI.alloc wI.size _)) (fun _=>jB.alloc nR _)
   refine aa _ vb0 ?_
   refine aa _ (vb1c1 1 yG 0) ?_
   refine aa _ vb0 ?_
   apply aa
   case h1 =>
    intro vs L9 w9 wK wI hB K9 wJ
    replace wI:=sb wI wK
    have d2:=fe hB 2
    have d3:=fe hB 3
    simp only [d2,d3] at wJ ⊢
    simp only [Act.put,sA,gs0,gs1] at wJ
    refine lG rfl 37 104 (.tmp 50) (.tmp 51) rfl Tryz.underlying37 2 gJ x.TA x.t.length x.tc k (by rfl) (by rfl) hk wX ?_
    exact wJ _ _ rfl (sy wK wI) bR
   refine af [10,15,17] (fun v w9=>∃ A c,v=F A (k) c∧w9.ownsRow W4.heap.size 104 2 (F A (k) c) (k) ((x.t.flatMap aq.enc).take (k * 2))) ?sc5 (fun vs L9 w9 wK wI hB K9 wJ=>?hc5) ?rc5
   case sc5 =>
    intro i9 xG hb9 ha9 v w1 w2 hv xj
    have hb:=xj (fun hm=>by
     simp only [mC,mN,oF] at hm hb9
     rcases hm with rfl | rfl | rfl
     ·exact hb9 sP
     ·exact hb9 sP
     ·exact hb9 sP)
    obtain ⟨A,c,e,ho⟩:=hv
    exact ⟨A,c,e,ac ho hb⟩
   case hc5 =>
    replace wI:=sb wI wK
    have d4:=fe hB 4
    simp only [d4] at wJ ⊢
    simp only [Act.put,sA,gs0,gs1] at wJ
    obtain ⟨g,e0,hg,hl⟩:=fs hB 0
    simp only [e0] at wJ ⊢
    refine lF rfl (.tmp 48) (.tmp 52) 37 rfl 104 _ 2 16 Tryz.underlying37 dR rfl oM oM W4.heap.size g (by rfl) hl hg W4.heap.size x.TA k x.tc _ (by rfl) (bm.take (bm.below Bm.ts wI) k hk) (fun u hu=>eJ u (List.mem_of_mem_take hu)) oM ?_
    intro v' w' ho hb
    obtain ⟨A',c',rfl⟩:=az ho
    exact wJ _ _ _ rfl ⟨A',c',rfl,ho⟩ (Sw.stay wK kZ dD (wI.trans (hb.mono wI.size))) (fun _=>hb)
   refine aa _ vb0 ?_
   refine aa _ vb0 ?_
   refine aa _ (vb2 6 7) ?_
   refine af [10,15,17] (fun v w9=>∃ g c,v=F (some ⟨g,0,none⟩) 1 c∧ai w9 g 104 [O U kd,O U n]) ?sc9 (fun vs L9 w9 wK wI hB K9 wJ=>?hc9) ?rc9
   case sc9 =>
    intro i9 xG hb9 ha9 v w1 w2 hv xj
    have hb:=xj (fun hm=>by
     simp only [mC,mN,oF] at hm hb9
     rcases hm with rfl | rfl | rfl
     ·exact hb9 sP
     ·exact hb9 sP
     ·exact hb9 sP)
    obtain ⟨g,c,e,hl⟩:=hv
    exact ⟨g,c,e,hl.below hb hl.lt⟩
   case hc9 =>
    replace wI:=sb wI wK
    have d8:=fe hB 8
    simp only [d8] at wJ ⊢
    simp only [Act.put,sA,gs0,gs1] at wJ
    go_simp
    exact wJ _ _ _ rfl ⟨_,_,rfl,ai.new w9 104 #[O U kd,O U n]⟩ (Sw.stay wK kZ dD (wI.alloc wI.size _)) (fun _=>jB.alloc nR _)
   refine af [15,17] (fun v w9=>∃ A c,v=F A (k+1) c∧w9.ownsRow W4.heap.size 104 2 (F A (k+1) c) (k+1) ((x.t.flatMap aq.enc).take (k * 2)++[O U kd,O U n])) ?sc10 (fun vs L9 w9 wK wI hB K9 wJ=>?hc10) ?rc10
   case sc10 =>
    intro i9 xG hb9 ha9 v w1 w2 hv xj
    have hb:=xj (fun hm=>by
     simp only [mC,mN,oF] at hm hb9
     rcases hm with rfl | rfl | rfl
     ·exact xG rfl
     ·exact hb9 sP
     ·exact hb9 sP)
    obtain ⟨A,c,e,ho⟩:=hv
    exact ⟨A,c,e,ac ho hb⟩
   case hc10 =>
    replace wI:=sb wI wK
    simp only [Act.put,sA,gs0,gs1] at wJ
    obtain ⟨A,c,e5,ho⟩:=fs hB 5
    obtain ⟨g,c9,e9,hl⟩:=fs hB 9
    simp only [e5,e9] at wJ ⊢
    refine jh rfl (.tmp 53) (.tmp 57) 37 rfl 104 _ 2 16 Tryz.underlying37 dR rfl oM oM W4.heap.size _ k _ (by rfl) ho w9.heap.size (some ⟨g,0,none⟩) 1 c9 [O U kd,O U n] (by rfl) (hl.reads rfl oM) (by simp [Value.oneCell']) oM wI.size ?_
    intro A' c' w' ho' _ hb
    exact wJ _ _ _ rfl ⟨A',c',rfl,ho'⟩ (Sw.stay wK kZ dD (wI.trans hb)) nq
   refine aa _ vb0 ?_
   refine aa _ (vb1c1 11 yG 0) ?_
   refine aa _ vb0 ?_
   refine af [] (fun v w9=>∃ A,v=F A (x.t.length - k) (x.tc - k)∧∀ W9,Below W4.heap.size W4 W9→bm W9 W4.heap.size 2 A (x.t.length - k) ((x.t.flatMap aq.enc).drop (k * 2))) ?sc14 (fun vs L9 w9 wK wI hB K9 wJ=>?hc14) ?rc14
   case sc14 =>
    intro i9 xG hb9 ha9 v w1 w2 hv xj
    exact hv
   case hc14 =>
    replace wI:=sb wI wK
    have d12:=fe hB 12
    have d13:=fe hB 13
    simp only [d12,d13] at wJ ⊢
    simp only [Act.put,sA,gs0,gs1] at wJ
    refine ke rfl 37 104 (.tmp 60) (.tmp 61) rfl Tryz.underlying37 2 gJ x.TA x.t.length x.tc k (by rfl) (by rfl) hk wX ?_
    intro A' xx
    exact wJ _ _ _ rfl ⟨A',rfl,fun W9 hW=>xx _ _ _ (bm.below Bm.ts hW)⟩ (sy wK wI) bR
   refine af [17] (fun v w9=>∃ A c,v=F A (k+1+(x.t.length - k)) c∧w9.ownsRow W4.heap.size 104 2 (F A (k+1+(x.t.length - k)) c) (k+1+(x.t.length - k)) (((x.t.flatMap aq.enc).take (k * 2)++[O U kd,O U n])++(x.t.flatMap aq.enc).drop (k * 2))) ?sc15 (fun vs L9 w9 wK wI hB K9 wJ=>?hc15) ?rc15
   case sc15 =>
    intro i9 xG hb9 ha9 v w1 w2 hv xj
    have hb:=xj (fun hm=>by
     simp only [mC,mN,oF] at hm hb9
     rcases hm with rfl | rfl | rfl
     ·exact absurd (ha9.symm.trans (show bU .any _ _ _ _=true by kernel_rfl)) dD
     ·exact xG rfl
     ·exact hb9 sP)
    obtain ⟨A,c,e,ho⟩:=hv
    exact ⟨A,c,e,ac ho hb⟩
   case hc15 =>
    replace wI:=sb wI wK
    simp only [Act.put,sA,gs0,gs1] at wJ
    obtain ⟨A,c,e10,ho⟩:=fs hB 10
    obtain ⟨A14,e14,hr⟩:=fs hB 14
    simp only [e10,e14] at wJ ⊢
    refine jh rfl (.tmp 58) (.tmp 62) 37 rfl 104 _ 2 16 Tryz.underlying37 dR rfl oM oM W4.heap.size _ (k+1) _ (by rfl) ho W4.heap.size A14 (x.t.length - k) (x.tc - k) _ (by rfl) (hr w9 wI) (fun u hu=>eJ u (List.mem_of_mem_drop hu)) oM wI.size ?_
    intro A' c' w' ho' _ hb
    exact wJ _ _ _ rfl ⟨A',c',rfl,ho'⟩ (Sw.stay wK kZ dD (wI.trans hb)) nq
   refine aa _ vb0 ?_
   refine aa (undef) (fun vs L9 w9 wK wI hB K9 wJ=>?hc17) ?rc17
   case hc17 =>
    replace wI:=wI.here wK
    have d16:=fe hB 16
    simp only [d16] at wJ ⊢
    obtain ⟨A,c,e15,ho⟩:=fs hB 15
    simp only [e15] at wJ ⊢
    have P9:=P1b.below wI P1b.lt
    have q0:=P9.cell 0
    have f0:=P9.frozen 0
    simp only [List.getElem?_cons_zero] at q0
    have ho:=jZ ho
    go_simp
    exact wJ _ _ rfl (Sw.turn ⟨w9,A,c,wI,ho.out,rfl⟩) nq
   refine ar fun vs L9 w9 wS wI hB=>?_
   replace wI:=wI.done wS dD
   obtain ⟨W8,A,c,wL,Cb,rfl⟩:=wI
   clear hB wS
   have P8:=P1b.below wL P1b.lt
   have hoT:=am Cb P8 cd 0 (F A (k+1+(x.t.length - k)) c)
   have hoO:=am (ac xm wL) P8 ci 0 (F A (k+1+(x.t.length - k)) c)
   have P9:=P8.set 0 (F A (k+1+(x.t.length - k)) c)
   have yR:=(yH.below wL yH.lt).other (p:=⟨W2.heap.size,0,none⟩) (by simp; omega) (F A (k+1+(x.t.length - k)) c)
   have b9:=(b4.trans (wL.mono b4.size)).setCell (p:=⟨W2.heap.size,0,none⟩) Hz (F A (k+1+(x.t.length - k)) c)
   have hoT:=ah hoT b4.size
   generalize W8.setCell ⟨W2.heap.size,0,none⟩ (F A (k+1+(x.t.length - k)) c)=W9 at hoT hoO P9 yR b9 ⊢
   have HT:=jZ (aR (v0:=F A (k+1+(x.t.length - k)) c) (v1:=F OA x.o.length oc) (v2:=O U x.gt) (v3:=O U x.sd) (v4:=O U x.ms) yR hoT cd)
   have HO:=jZ (aR (v0:=F A (k+1+(x.t.length - k)) c) (v1:=F OA x.o.length oc) (v2:=O U x.gt) (v3:=O U x.sd) (v4:=O U x.ms) yR hoO ci)
   have bz:=b9.trans (cj (v0:=F A (k+1+(x.t.length - k)) c) (v1:=F OA x.o.length oc) (v2:=O U x.gt) (v3:=O U x.sd) (v4:=O U x.ms) yR (Nat.le_succ _))
   simp only [List.set_cons_zero] at P9
   obtain ⟨k0,k1,k2,k3,k4⟩:=cells5 P9
   obtain ⟨z0,z1,z2,z3,z4⟩:=cells5 yR
   obtain ⟨f0,f1,f2,f3,f4⟩:=frz5 yR
   clear hoT hoO P9 P8 yR Cb c0
   go_wp2
   refine bodyPost_ret (v:=.agg #[F A (k+1+(x.t.length - k)) c,F OA x.o.length oc,O U x.gt,O U x.sd,O U x.ms]) (by simp [results,Tryz.results173,go_sem, *]) rfl ?_
   rw [KT.out,HK.out]
   have wR:((x.t.take k++[(⟨kd,n⟩ : aq)])++x.t.drop k).length=k+1+(x.t.length - k):=by
    rw [List.length_append,List.length_append,List.length_take,List.length_drop,List.length_singleton,Nat.min_eq_left hk]
   have yi:(((x.t.take k++[(⟨kd,n⟩ : aq)])++x.t.drop k).flatMap aq.enc)=(((x.t.flatMap aq.enc).take (k * 2)++[O U kd,O U n])++(x.t.flatMap aq.enc).drop (k * 2)):=by
    rw [List.flatMap_append,List.flatMap_append,jf aq.enc 2 aq.enc_len,jg aq.enc 2 aq.enc_len]
    rfl
   exact eu.of wR rfl rfl (by rw [wR,yi]; exact HT.out) HO.out bz
end Go.Proofs.YtoeoimhemojdeaaGreatDoor
