/- Lemmas. -/
import Derived.Test.YtoeoimhemojdeaaGreatDoorFr03

set_option linter.unusedVariables false
set_option linter.unusedSimpArgs false
set_option maxHeartbeats 8000000
open Go.Value renaming int → O, slice → F, string → xh
open Go.IntKind renaming i64 → U
open Go.Proofs.Tryz renaming prog → xi

namespace Go.Proofs.YtoeoimhemojdeaaGreatDoor
open Go.RowKit
def dr (W:World) (g:Nat) (v0 v1 v2 v3 v4:Value):World:=((((W.setCell ⟨g,0,none⟩ v0).setCell ⟨g,1,none⟩ v1).setCell ⟨g,2,none⟩ v2).setCell ⟨g,3,none⟩ v3).setCell ⟨g,4,none⟩ v4
section
variable {W:World} {g:Nat} {a b c d e v0 v1 v2 v3 v4:Value}
theorem eD (h:ai W g 40 [a,b,c,d,e]):ai (dr W g v0 v1 v2 v3 v4) g 40 [v0,v1,v2,v3,v4]:=((((h.set 0 v0).set 1 v1).set 2 v2).set 3 v3).set 4 v4
theorem eG:W.grownBy (dr W g v0 v1 v2 v3 v4) (some g):=ab (ab (ab (ab (ab (World.grownBy.refl W (some g))))))
theorem aR {B k n:Nat} {t:TypeId} {v:Value} {xs:List Value} (h:ai W g 40 [a,b,c,d,e]) (ho:W.ownsRow B t k v n xs) (xw:t ≠ 40):(dr W g v0 v1 v2 v3 v4).ownsRow B t k v n xs:=ak ho h xw eG
theorem ci {B:Nat} (h:ai W g 40 [a,b,c,d,e]) (hB:B≤g):Below B W (dr W g v0 v1 v2 v3 v4) :=
 (Below.refl B W).grown eG (Nat.le_of_lt (Nat.lt_of_le_of_lt hB h.lt)) (by rintro _ ⟨⟩; exact hB)
theorem m4 {g' : Nat} {t:TypeId} {cs:List Value} (h:ai W g' t cs) (xw:g' ≠ g):ai (dr W g v0 v1 v2 v3 v4) g' t cs:=h.kept eG (by simpa using xw)
end
theorem ej.of {w w' : World} {e:Ending} {y:Oc} {TA OA:Option Addr} {tc oc m k:Nat} (hm:y.t.length=m) (hk:y.o.length=k) (he:e=.returned (.agg #[F TA m tc,F OA k oc,O U y.gt,O U y.sd,O U y.ms]))
  (h8:w'.ownsRow w.heap.size 104 2 (F TA m tc) y.t.length (y.t.flatMap ar.enc)) (h9:w'.ownsRow w.heap.size 147 3 (F OA k oc) y.o.length (y.o.flatMap ae.enc)) (hb:Below w.heap.size w w'):ej w y e w':=by
 subst hm; subst hk
 exact ⟨TA,tc,OA,oc,he,h8,h9,hb⟩
set_option maxRecDepth 100000 in
theorem ul (x:aN) (kd n:Int) (w:World) (h:aQ w w.heap.size x) (tl:x.t.length≤1000000) (ol:x.o.length≤1000000) (BO:∀ i (hi:i < x.t.length), -1000000000≤x.t[i].c∧x.t[i].c≤1000000000) (hn : -1000000000≤n∧n≤1000000000) (hx:0≤ay x.t kd) :
  Calls xi 173 #[x.val,O U kd,O U n] w (ej w ⟨aj x.t kd n,x.o,x.gt,x.sd,x.ms⟩):=by
 obtain ⟨i,hi⟩ : ∃ i:Nat,ay x.t kd=i:=⟨(ay x.t kd).toNat,oM⟩
 have zH:i < x.t.length:=by have:=mi hx; omega
 have yw:=iA (n:=n) hi zH
 obtain ⟨n1,n2⟩:=hn
 obtain ⟨u1,u2⟩:=BO i zH
 clear BO hx
 obtain ⟨tr,ze⟩ : ∃ tr,tr=x.t[i]:=⟨_,rfl⟩
 rw [← ze] at yw u1 u2
 have HI:=jZ yw; clear yw
 have L1:=(ai.new w 40 #[F x.TA x.t.length x.tc,F x.OA x.o.length x.oc,O U x.gt,O U x.sd,O U x.ms]).alloc (.cells #[F none 0 0,F none 0 0,O U 0,O U 0,O U 0] 40)
 have L2:=ai.new1 w (.cells #[F x.TA x.t.length x.tc,F x.OA x.o.length x.oc,O U x.gt,O U x.sd,O U x.ms] 40) 40 #[F none 0 0,F none 0 0,O U 0,O U 0,O U 0]
 have b1:=bZ w (.cells #[F x.TA x.t.length x.tc,F x.OA x.o.length x.oc,O U x.gt,O U x.sd,O U x.ms] 40)
 have b2:=b1.alloc b1.size (.cells #[F none 0 0,F none 0 0,O U 0,O U 0,O U 0] 40)
 clear b1
 go_enter Tryz.func173,Tryz.ntmps173
 go_wp2_with fail
 generalize ((w.alloc (.cells #[F x.TA x.t.length x.tc,F x.OA x.o.length x.oc,O U x.gt,O U x.sd,O U x.ms] 40)).alloc (.cells #[F none 0 0,F none 0 0,O U 0,O U 0,O U 0] 40))=W at L1 L2 b2 ⊢
 have hR:=h.up b2 nR
 refine (jK x W hR tl ol).mono ?_
 rintro e W2 ⟨TA,tc,OA,oc,he,hT,hO,xn⟩
 have he:e=.returned (.agg #[F TA x.t.length tc,F OA x.o.length oc,O U x.gt,O U x.sd,O U x.ms]):=he
 subst he
 simp only [aN.c] at hT hO
 have x9:=(L1.below xn L1.lt).alloc (.cells #[F TA x.t.length tc,F OA x.o.length oc,O U x.gt,O U x.sd,O U x.ms] 40)
 have xU:=(L2.below xn L2.lt).alloc (.cells #[F TA x.t.length tc,F OA x.o.length oc,O U x.gt,O U x.sd,O U x.ms] 40)
 have P1:=ai.new W2 40 #[F TA x.t.length tc,F OA x.o.length oc,O U x.gt,O U x.sd,O U x.ms]
 have xo:=(Below.refl W2.heap.size W2).alloc nR (.cells #[F TA x.t.length tc,F OA x.o.length oc,O U x.gt,O U x.sd,O U x.ms] 40)
 have ye:=ag (ac hT xo) b2.size
 have xN:=ag (ac hO xo) b2.size
 have b3:=b2.trans ((av xn xo).mono b2.size)
 have yU:=(hR.then xn).then xo
 have IJ:w.heap.size≤W2.heap.size:=jT b2.size xn.size
 have xP:w.heap.size+1 < W2.heap.size:=jL L2.lt xn.size
 obtain ⟨c0,c1,c2,c3,c4⟩:=cells5 x9
 clear L1 L2 b2 xn hT hO xo hR h
 obtain ⟨W3,yh⟩ : ∃ W3,W2.alloc (.cells #[F TA x.t.length tc,F OA x.o.length oc,O U x.gt,O U x.sd,O U x.ms] 40)=W3:=⟨_,rfl⟩
 rw [yh] at x9 xU P1 ye xN b3 yU c0 c1 c2 c3 c4
 go_wp2_with (rw [yh])
 clear yh
 refine (bP x kd W3 yU).mono ?_
 rintro e W4 ⟨rfl,xy⟩
 rw [hi]
 obtain ⟨bA,off,hA,hbA,hcell⟩:=fE.el (yU.then xy).ts oM
 obtain ⟨e0,e1⟩:=hcell i zH
 rw [← ze] at e0 e1
 have Lo:=jZ ze; clear ze hcell e0
 have zg:=x9.below xy x9.lt
 have zh:=xU.below xy xU.lt
 have P1b:=P1.below xy P1.lt
 have xQ:=ac ye xy
 have xL:=ac xN xy
 have b4:=b3.trans (xy.mono b3.size)
 clear x9 xU P1 ye xN b3 yU xy c0 c1 c2 c3 c4 hi
 obtain ⟨gT,cT,restT,hvT,hgT,LT,hcT⟩:=cg xQ oM
 injection hvT with zI _ AQ
 subst zI; subst AQ
 have Fj:aC W4 w.heap.size W2.heap.size (F (some ⟨gT,0,none⟩) x.t.length tc) (F OA x.o.length oc) ⟨x.t,x.o,x.gt,x.sd,x.ms⟩:=⟨P1b,IJ,xQ,xL⟩
 simp only [hA] at zg
 have xw:=LT.apart zh dD
 have xR:(0:Int)≤(i:Int):=oM
 have Oa:decide ((i:Int) ≥ 0)=true:=jD xR
 clear LT xQ xL P1b hA
 go_wp2
 refine al (Sw 13 (fun W9=>Below W4.heap.size W4 W9) (fun W9=>∃ W8,Below W4.heap.size W4 W8∧W9=W8.setCell ⟨gT,i * 2+1,none⟩ (O U (tr.c+n)))) (fun i w1 w2=>i ∉ [13]→Below w1.heap.size w1 w2) kZ kZ kZ (Sw.start jB.drew) ?_
 simp only [ax,Act.put,sA,gs0,gs1,Nat.zero_add,Nat.reduceAdd]
 refine aa _ vb0 ?_
 refine aa _ (vb1c1 0 Fj.lies 0) ?_
 refine aa _ vb0 ?_
 refine aa _ vb0 ?_
 refine aa _ (vb1c1 3 zg 0) ?_
 refine aa _ vb0 ?_
 refine aa _ (vb2 4 5) ?_
 refine aa _ (vb1 6) ?_
 refine aa _ (vb1s 7 e1) ?_
 refine aa _ vb0 ?_
 refine aa _ (vb2i 8 9 (show IntKind.i64.wrap (tr.c+n)=tr.c+n from IntWalk.i64_in _ oM)) ?_
 refine aa _ (vb2 1 2) ?_
 refine aa _ (vb1 11) ?_
 refine aa (undef) (fun vs L9 w9 xl xj hB K9 xk=>?ha13) ?ra13
 case ha13 =>
  replace xj:=xj.here xl
  have d10:=fe hB 10
  have d12:=fe hB 12
  simp only [d10,d12] at xk ⊢
  obtain ⟨_,_,q0,f0⟩:=aC.setT' (y:=⟨x.t,x.o,x.gt,x.sd,x.ms⟩) (Fj.then xj) zH tr Lo.out.symm (tr.c+n)
  go_simp
  exact xk _ _ rfl (Sw.turn ⟨w9,xj,rfl⟩) nq
 refine au fun vs L9 w9 xv xj hB=>?_
 replace xj:=xj.done xv dD
 obtain ⟨W8,xm,rfl⟩:=xj
 clear hB xv
 obtain ⟨Dl,hb10,_,_⟩:=aC.setT' (y:=⟨x.t,x.o,x.gt,x.sd,x.ms⟩) (Fj.then xm) zH tr Lo.out.symm (tr.c+n)
 have b10:=(b4.trans (xm.mono b4.size)).trans hb10
 have zn:=(zh.below xm zh.lt).other (p:=⟨gT,i * 2+1,none⟩) (Ne.symm xw) (O U (tr.c+n))
 generalize W8.setCell ⟨gT,i * 2+1,none⟩ (O U (tr.c+n))=W9 at Dl b10 zn ⊢
 have P9:=Dl.lies
 have zF:=aR (v0:=F (some ⟨gT,0,none⟩) x.t.length tc) (v1:=F OA x.o.length oc) (v2:=O U x.gt) (v3:=O U x.sd) (v4:=O U x.ms) zn Dl.t cd
 have EG:=aR (v0:=F (some ⟨gT,0,none⟩) x.t.length tc) (v1:=F OA x.o.length oc) (v2:=O U x.gt) (v3:=O U x.sd) (v4:=O U x.ms) zn Dl.o ch
 have bz:=b10.trans (ci (v0:=F (some ⟨gT,0,none⟩) x.t.length tc) (v1:=F OA x.o.length oc) (v2:=O U x.gt) (v3:=O U x.sd) (v4:=O U x.ms) zn (Nat.le_succ _))
 have R8:=jZ zF
 have R9:=jZ EG
 obtain ⟨c0,c1,c2,c3,c4⟩:=cells5 P9
 obtain ⟨z0,z1,z2,z3,z4⟩:=cells5 zn
 obtain ⟨f0,f1,f2,f3,f4⟩:=frz5 zn
 clear zF EG Dl hb10 P9 zn
 go_wp2
 refine bodyPost_ret (v:=.agg #[F (some ⟨gT,0,none⟩) x.t.length tc,F OA x.o.length oc,O U x.gt,O U x.sd,O U x.ms]) (by simp [results,Tryz.results173,go_sem, *]) rfl ?_
 rw [HI.out]
 exact ej.of (List.length_set ..) rfl rfl R8.out R9.out bz
theorem um {l:List ar} {kd:Int} {k:Nat} (h:k < l.length):dG (l.drop k) kd=if l[k].k < kd then dG (l.drop (k+1)) kd+1 else 0:=by
 rw [List.drop_eq_getElem_cons h,kD]
theorem pf {ts:List ar} {kd n:Int} (h : ¬ 0≤ay ts kd):aj ts kd n=(ts.take (dG ts kd)++[⟨kd,n⟩])++ts.drop (dG ts kd):=by
 unfold aj; rw [if_neg h,List.append_assoc]; rfl
theorem gP:(xi.info? 104).map (·.size)=some 2:=kZ
set_option maxRecDepth 100000 in
theorem un (x:aN) (kd n:Int) (w:World) (h:aQ w w.heap.size x) (tl:x.t.length≤1000000) (ol:x.o.length≤1000000) (BO:∀ i (hi:i < x.t.length), -1000000000≤x.t[i].c∧x.t[i].c≤1000000000) (hn : -1000000000≤n∧n≤1000000000) (hx : ¬ 0≤ay x.t kd) (xA:x.t.length≤x.tc) :
  Calls xi 173 #[x.val,O U kd,O U n] w (ej w ⟨aj x.t kd n,x.o,x.gt,x.sd,x.ms⟩):=by
 obtain ⟨n1,n2⟩:=hn
 clear BO
 have IK:=jZ (pf (n:=n) hx)
 have L1:=(ai.new w 40 #[F x.TA x.t.length x.tc,F x.OA x.o.length x.oc,O U x.gt,O U x.sd,O U x.ms]).alloc (.cells #[F none 0 0,F none 0 0,O U 0,O U 0,O U 0] 40)
 have L2:=ai.new1 w (.cells #[F x.TA x.t.length x.tc,F x.OA x.o.length x.oc,O U x.gt,O U x.sd,O U x.ms] 40) 40 #[F none 0 0,F none 0 0,O U 0,O U 0,O U 0]
 have b1:=bZ w (.cells #[F x.TA x.t.length x.tc,F x.OA x.o.length x.oc,O U x.gt,O U x.sd,O U x.ms] 40)
 have b2:=b1.alloc b1.size (.cells #[F none 0 0,F none 0 0,O U 0,O U 0,O U 0] 40)
 clear b1
 go_enter Tryz.func173,Tryz.ntmps173
 go_wp2_with fail
 generalize ((w.alloc (.cells #[F x.TA x.t.length x.tc,F x.OA x.o.length x.oc,O U x.gt,O U x.sd,O U x.ms] 40)).alloc (.cells #[F none 0 0,F none 0 0,O U 0,O U 0,O U 0] 40))=W at L1 L2 b2 ⊢
 have hR:=h.up b2 nR
 refine (jK x W hR tl ol).mono ?_
 rintro e W2 ⟨TA,tc,OA,oc,he,hT,hO,xn⟩
 have he:e=.returned (.agg #[F TA x.t.length tc,F OA x.o.length oc,O U x.gt,O U x.sd,O U x.ms]):=he
 subst he
 simp only [aN.c] at hT hO
 have x9:=(L1.below xn L1.lt).alloc (.cells #[F TA x.t.length tc,F OA x.o.length oc,O U x.gt,O U x.sd,O U x.ms] 40)
 have xU:=(L2.below xn L2.lt).alloc (.cells #[F TA x.t.length tc,F OA x.o.length oc,O U x.gt,O U x.sd,O U x.ms] 40)
 have P1:=ai.new W2 40 #[F TA x.t.length tc,F OA x.o.length oc,O U x.gt,O U x.sd,O U x.ms]
 have xo:=(Below.refl W2.heap.size W2).alloc nR (.cells #[F TA x.t.length tc,F OA x.o.length oc,O U x.gt,O U x.sd,O U x.ms] 40)
 have ye:=ag (ac hT xo) b2.size
 have xN:=ag (ac hO xo) b2.size
 have b3:=b2.trans ((av xn xo).mono b2.size)
 have yU:=(hR.then xn).then xo
 have IJ:w.heap.size≤W2.heap.size:=jT b2.size xn.size
 have xP:w.heap.size+1 < W2.heap.size:=jL L2.lt xn.size
 obtain ⟨c0,c1,c2,c3,c4⟩:=cells5 x9
 clear L1 L2 b2 xn hT hO xo hR h
 obtain ⟨W3,yh⟩ : ∃ W3,W2.alloc (.cells #[F TA x.t.length tc,F OA x.o.length oc,O U x.gt,O U x.sd,O U x.ms] 40)=W3:=⟨_,rfl⟩
 rw [yh] at x9 xU P1 ye xN b3 yU c0 c1 c2 c3 c4
 go_wp2_with (rw [yh])
 clear yh
 refine (bP x kd W3 yU).mono ?_
 rintro e W4 ⟨rfl,xy⟩
 have zg:=x9.below xy x9.lt
 have zh:=xU.below xy xU.lt
 have P1b:=P1.below xy P1.lt
 have xL:=ac xN xy
 have b4:=b3.trans (xy.mono b3.size)
 have zQ:=yU.then xy
 have Ob:decide (ay x.t kd ≥ 0)=false:=jE oM
 have Od:ay x.t kd < 0:=oM
 clear x9 xU P1 ye xN b3 yU xy c0 c1 c2 c3 c4 hx
 have c0:=zg.cell 0
 simp only [List.getElem?_cons_zero] at c0
 have hl:=zQ.ts.big
 go_wp2
 go_loopw [9] (fun v wr=>∃ k:Nat,k≤x.t.length∧v=O U (k:Int)∧wr=W4∧Hid (k+dG (x.t.drop k) kd=dG x.t kd)) (fun v _=>x.t.length - (intOf v).toNat)
 case atStart=>exact ⟨0,Nat.zero_le _,rfl,rfl,by unfold Hid; simp⟩
 case round =>
  obtain ⟨k,hk,rfl,EH,HP⟩:=hrel
  subst wr
  have Eh:k≤9223372036854775807:=jT hk hl
  by_cases xu:k < x.t.length
  ·obtain ⟨bA,off,hA,hbA,hcell⟩:=fE.el zQ.ts oM
   obtain ⟨e0,_⟩:=hcell k xu
   have e0:W4.cell? ⟨bA,off+k * 2,none⟩=some (O U x.t[k].k):=e0 (aq.start _ _)
   have HS:=jZ (um (kd:=kd) xu)
   obtain ⟨tk,Lp⟩ : ∃ tk,tk=x.t[k].k:=⟨_,rfl⟩
   rw [← Lp] at e0 HS
   clear Lp hcell
   have MG:(k:Int) < (x.t.length:Int):=oM
   by_cases hm:tk < kd
   ·have HN:Hid (k+1+dG (x.t.drop (k+1)) kd=dG x.t kd):=by unfold Hid; rw [← HP.out,HS.out,if_pos hm]; omega
    simp only [hA] at c0
    have JP:=jZ hA
    clear hA
    go_wp2
    go_roundw
    case rel=>exact ⟨k+1,oM,by go_num,trivial,HN⟩
    case measure=>simp [intOf]; omega
   ·have HK:Hid (dG x.t kd=k):=by unfold Hid; rw [← HP.out,HS.out,if_neg hm]; rfl
    clear HP HS
    have JP:=jZ hA
    have c0':=jZ c0
    simp only [hA] at c0
    clear hA
    go_wp2
    clear c0
    have c0:=c0'.out
    clear c0' hm e0
    refine al (Sw 17 (fun W9=>Below W4.heap.size W4 W9) (fun W9=>∃ W8 A c,Below W4.heap.size W4 W8∧W8.ownsRow W4.heap.size 104 2 (F A (k+1+(x.t.length - k)) c) (k+1+(x.t.length - k)) (((x.t.flatMap ar.enc).take (k * 2)++[O U kd,O U n])++(x.t.flatMap ar.enc).drop (k * 2))∧W9=W8.setCell ⟨W2.heap.size,0,none⟩ (F A (k+1+(x.t.length - k)) c))) (fun i w1 w2=>i ∉ [10,15,17]→Below w1.heap.size w1 w2) kZ kZ kZ (Sw.start jB.drew) ?_
    simp only [ax,Act.put,sA,gs0,gs1,Nat.zero_add,Nat.reduceAdd]
    refine af [10,15,17] (fun v w9=>∃ g,v=F (some ⟨g,0,none⟩) 0 0∧W4.heap.size≤g∧ai w9 g 104 []) ?sb0 (fun vs L9 w9 xl xj hB K9 xk=>?hb0) ?rb0
    case sb0 =>
     intro i9 yg hb9 ha9 v w1 w2 hv xJ
     have hb:=xJ (fun hm=>by
      simp only [mC,mN,oF] at hm hb9
      rcases hm with rfl | rfl | rfl
      ·exact hb9 sP
      ·exact hb9 sP
      ·exact hb9 sP)
     obtain ⟨g,e,hg,hl⟩:=hv
     exact ⟨g,e,hg,hl.below hb hl.lt⟩
    case hb0 =>
     replace xj:=sb xj xl
     simp only [Act.put,sA,gs0,gs1] at xk
     go_simp
     exact xk _ _ _ rfl ⟨_,rfl,xj.size,ai.new w9 104 #[]⟩ (Sw.stay xl kZ dD (xj.alloc xj.size _)) (fun _=>jB.alloc nR _)
    refine aa _ vb0 ?_
    refine aa _ (vb1c1 1 zg 0) ?_
    refine aa _ vb0 ?_
    apply aa
    case h1 =>
     intro vs L9 w9 xl xj hB K9 xk
     replace xj:=sb xj xl
     have d2:=fe hB 2
     have d3:=fe hB 3
     simp only [d2,d3] at xk ⊢
     simp only [Act.put,sA,gs0,gs1] at xk
     refine lM rfl 37 104 (.tmp 50) (.tmp 51) rfl Tryz.underlying37 2 gP x.TA x.t.length x.tc k (by rfl) (by rfl) hk xA ?_
     exact xk _ _ rfl (sy xl xj) bR
    refine af [10,15,17] (fun v w9=>∃ A c,v=F A (k) c∧w9.ownsRow W4.heap.size 104 2 (F A (k) c) (k) ((x.t.flatMap ar.enc).take (k * 2))) ?sb5 (fun vs L9 w9 xl xj hB K9 xk=>?hb5) ?rb5
    case sb5 =>
     intro i9 yg hb9 ha9 v w1 w2 hv xJ
     have hb:=xJ (fun hm=>by
      simp only [mC,mN,oF] at hm hb9
      rcases hm with rfl | rfl | rfl
      ·exact hb9 sP
      ·exact hb9 sP
      ·exact hb9 sP)
     obtain ⟨A,c,e,ho⟩:=hv
     exact ⟨A,c,e,ac ho hb⟩
    case hb5 =>
     replace xj:=sb xj xl
     have d4:=fe hB 4
     simp only [d4] at xk ⊢
     simp only [Act.put,sA,gs0,gs1] at xk
     obtain ⟨g,e0,hg,hl⟩:=fs hB 0
     simp only [e0] at xk ⊢
     refine lL rfl (.tmp 48) (.tmp 52) 37 rfl 104 _ 2 16 Tryz.underlying37 dO rfl oM oM W4.heap.size g (by rfl) hl hg W4.heap.size x.TA k x.tc _ (by rfl) (bi.take (bi.below zQ.ts xj) k hk) (fun u hu=>eJ u (List.mem_of_mem_take hu)) oM ?_
     intro v' w' ho hb
     obtain ⟨A',c',rfl⟩:=az ho
     exact xk _ _ _ rfl ⟨A',c',rfl,ho⟩ (Sw.stay xl kZ dD (xj.trans (hb.mono xj.size))) (fun _=>hb)
    refine aa _ vb0 ?_
    refine aa _ vb0 ?_
    refine aa _ (vb2 6 7) ?_
    refine af [10,15,17] (fun v w9=>∃ g c,v=F (some ⟨g,0,none⟩) 1 c∧ai w9 g 104 [O U kd,O U n]) ?sb9 (fun vs L9 w9 xl xj hB K9 xk=>?hb9) ?rb9
    case sb9 =>
     intro i9 yg hb9 ha9 v w1 w2 hv xJ
     have hb:=xJ (fun hm=>by
      simp only [mC,mN,oF] at hm hb9
      rcases hm with rfl | rfl | rfl
      ·exact hb9 sP
      ·exact hb9 sP
      ·exact hb9 sP)
     obtain ⟨g,c,e,hl⟩:=hv
     exact ⟨g,c,e,hl.below hb hl.lt⟩
    case hb9 =>
     replace xj:=sb xj xl
     have d8:=fe hB 8
     simp only [d8] at xk ⊢
     simp only [Act.put,sA,gs0,gs1] at xk
     go_simp
     exact xk _ _ _ rfl ⟨_,_,rfl,ai.new w9 104 #[O U kd,O U n]⟩ (Sw.stay xl kZ dD (xj.alloc xj.size _)) (fun _=>jB.alloc nR _)
    refine af [15,17] (fun v w9=>∃ A c,v=F A (k+1) c∧w9.ownsRow W4.heap.size 104 2 (F A (k+1) c) (k+1) ((x.t.flatMap ar.enc).take (k * 2)++[O U kd,O U n])) ?sb10 (fun vs L9 w9 xl xj hB K9 xk=>?hb10) ?rb10
    case sb10 =>
     intro i9 yg hb9 ha9 v w1 w2 hv xJ
     have hb:=xJ (fun hm=>by
      simp only [mC,mN,oF] at hm hb9
      rcases hm with rfl | rfl | rfl
      ·exact yg rfl
      ·exact hb9 sP
      ·exact hb9 sP)
     obtain ⟨A,c,e,ho⟩:=hv
     exact ⟨A,c,e,ac ho hb⟩
    case hb10 =>
     replace xj:=sb xj xl
     simp only [Act.put,sA,gs0,gs1] at xk
     obtain ⟨A,c,e5,ho⟩:=fs hB 5
     obtain ⟨g,c9,e9,hl⟩:=fs hB 9
     simp only [e5,e9] at xk ⊢
     refine jq rfl (.tmp 53) (.tmp 57) 37 rfl 104 _ 2 16 Tryz.underlying37 dO rfl oM oM W4.heap.size _ k _ (by rfl) ho w9.heap.size (some ⟨g,0,none⟩) 1 c9 [O U kd,O U n] (by rfl) (hl.reads rfl oM) (by simp [Value.oneCell']) oM xj.size ?_
     intro A' c' w' ho' _ hb
     exact xk _ _ _ rfl ⟨A',c',rfl,ho'⟩ (Sw.stay xl kZ dD (xj.trans hb)) nq
    refine aa _ vb0 ?_
    refine aa _ (vb1c1 11 zg 0) ?_
    refine aa _ vb0 ?_
    refine af [] (fun v w9=>∃ A,v=F A (x.t.length - k) (x.tc - k)∧∀ W9,Below W4.heap.size W4 W9→bi W9 W4.heap.size 2 A (x.t.length - k) ((x.t.flatMap ar.enc).drop (k * 2))) ?sb14 (fun vs L9 w9 xl xj hB K9 xk=>?hb14) ?rb14
    case sb14 =>
     intro i9 yg hb9 ha9 v w1 w2 hv xJ
     exact hv
    case hb14 =>
     replace xj:=sb xj xl
     have d12:=fe hB 12
     have d13:=fe hB 13
     simp only [d12,d13] at xk ⊢
     simp only [Act.put,sA,gs0,gs1] at xk
     refine km rfl 37 104 (.tmp 60) (.tmp 61) rfl Tryz.underlying37 2 gP x.TA x.t.length x.tc k (by rfl) (by rfl) hk xA ?_
     intro A' xS
     exact xk _ _ _ rfl ⟨A',rfl,fun W9 hW=>xS _ _ _ (bi.below zQ.ts hW)⟩ (sy xl xj) bR
    refine af [17] (fun v w9=>∃ A c,v=F A (k+1+(x.t.length - k)) c∧w9.ownsRow W4.heap.size 104 2 (F A (k+1+(x.t.length - k)) c) (k+1+(x.t.length - k)) (((x.t.flatMap ar.enc).take (k * 2)++[O U kd,O U n])++(x.t.flatMap ar.enc).drop (k * 2))) ?sb15 (fun vs L9 w9 xl xj hB K9 xk=>?hb15) ?rb15
    case sb15 =>
     intro i9 yg hb9 ha9 v w1 w2 hv xJ
     have hb:=xJ (fun hm=>by
      simp only [mC,mN,oF] at hm hb9
      rcases hm with rfl | rfl | rfl
      ·exact absurd (ha9.symm.trans (show bU .any _ _ _ _=true by kernel_rfl)) dD
      ·exact yg rfl
      ·exact hb9 sP)
     obtain ⟨A,c,e,ho⟩:=hv
     exact ⟨A,c,e,ac ho hb⟩
    case hb15 =>
     replace xj:=sb xj xl
     simp only [Act.put,sA,gs0,gs1] at xk
     obtain ⟨A,c,e10,ho⟩:=fs hB 10
     obtain ⟨A14,e14,hr⟩:=fs hB 14
     simp only [e10,e14] at xk ⊢
     refine jq rfl (.tmp 58) (.tmp 62) 37 rfl 104 _ 2 16 Tryz.underlying37 dO rfl oM oM W4.heap.size _ (k+1) _ (by rfl) ho W4.heap.size A14 (x.t.length - k) (x.tc - k) _ (by rfl) (hr w9 xj) (fun u hu=>eJ u (List.mem_of_mem_drop hu)) oM xj.size ?_
     intro A' c' w' ho' _ hb
     exact xk _ _ _ rfl ⟨A',c',rfl,ho'⟩ (Sw.stay xl kZ dD (xj.trans hb)) nq
    refine aa _ vb0 ?_
    refine aa (undef) (fun vs L9 w9 xl xj hB K9 xk=>?hb17) ?rb17
    case hb17 =>
     replace xj:=xj.here xl
     have d16:=fe hB 16
     simp only [d16] at xk ⊢
     obtain ⟨A,c,e15,ho⟩:=fs hB 15
     simp only [e15] at xk ⊢
     have P9:=P1b.below xj P1b.lt
     have q0:=P9.cell 0
     have f0:=P9.frozen 0
     simp only [List.getElem?_cons_zero] at q0
     have ho:=jZ ho
     go_simp
     exact xk _ _ rfl (Sw.turn ⟨w9,A,c,xj,ho.out,rfl⟩) nq
    refine au fun vs L9 w9 xv xj hB=>?_
    replace xj:=xj.done xv dD
    obtain ⟨W8,A,c,xm,Dk,rfl⟩:=xj
    clear hB xv
    have P8:=P1b.below xm P1b.lt
    have hoT:=am Dk P8 cd 0 (F A (k+1+(x.t.length - k)) c)
    have hoO:=am (ac xL xm) P8 ch 0 (F A (k+1+(x.t.length - k)) c)
    have P9:=P8.set 0 (F A (k+1+(x.t.length - k)) c)
    have zn:=(zh.below xm zh.lt).other (p:=⟨W2.heap.size,0,none⟩) (by simp; omega) (F A (k+1+(x.t.length - k)) c)
    have b9:=(b4.trans (xm.mono b4.size)).setCell (p:=⟨W2.heap.size,0,none⟩) IJ (F A (k+1+(x.t.length - k)) c)
    have hoT:=ag hoT b4.size
    generalize W8.setCell ⟨W2.heap.size,0,none⟩ (F A (k+1+(x.t.length - k)) c)=W9 at hoT hoO P9 zn b9 ⊢
    have HT:=jZ (aR (v0:=F A (k+1+(x.t.length - k)) c) (v1:=F OA x.o.length oc) (v2:=O U x.gt) (v3:=O U x.sd) (v4:=O U x.ms) zn hoT cd)
    have HO:=jZ (aR (v0:=F A (k+1+(x.t.length - k)) c) (v1:=F OA x.o.length oc) (v2:=O U x.gt) (v3:=O U x.sd) (v4:=O U x.ms) zn hoO ch)
    have bz:=b9.trans (ci (v0:=F A (k+1+(x.t.length - k)) c) (v1:=F OA x.o.length oc) (v2:=O U x.gt) (v3:=O U x.sd) (v4:=O U x.ms) zn (Nat.le_succ _))
    simp only [List.set_cons_zero] at P9
    obtain ⟨k0,k1,k2,k3,k4⟩:=cells5 P9
    obtain ⟨z0,z1,z2,z3,z4⟩:=cells5 zn
    obtain ⟨f0,f1,f2,f3,f4⟩:=frz5 zn
    clear hoT hoO P9 P8 zn Dk c0
    go_wp2
    refine bodyPost_ret (v:=.agg #[F A (k+1+(x.t.length - k)) c,F OA x.o.length oc,O U x.gt,O U x.sd,O U x.ms]) (by simp [results,Tryz.results173,go_sem, *]) rfl ?_
    rw [IK.out,HK.out]
    have xt:((x.t.take k++[(⟨kd,n⟩ : ar)])++x.t.drop k).length=k+1+(x.t.length - k):=by
     rw [List.length_append,List.length_append,List.length_take,List.length_drop,List.length_singleton,Nat.min_eq_left hk]
    have yD:(((x.t.take k++[(⟨kd,n⟩ : ar)])++x.t.drop k).flatMap ar.enc)=(((x.t.flatMap ar.enc).take (k * 2)++[O U kd,O U n])++(x.t.flatMap ar.enc).drop (k * 2)):=by
     rw [List.flatMap_append,List.flatMap_append,jo ar.enc 2 ar.enc_len,jp ar.enc 2 ar.enc_len]
     rfl
    exact ej.of xt rfl rfl (by rw [xt,yD]; exact HT.out) HO.out bz
  ·have GN:k=x.t.length:=oM
   have HK:Hid (dG x.t kd=k):=by unfold Hid; rw [← HP.out,List.drop_eq_nil_of_le oM]; rfl
   clear HP
   have Oe : ¬ (k:Int) < (x.t.length:Int):=oM
   have Hke:=jZ GN; clear GN
   go_wp2
   refine al (Sw 17 (fun W9=>Below W4.heap.size W4 W9) (fun W9=>∃ W8 A c,Below W4.heap.size W4 W8∧W8.ownsRow W4.heap.size 104 2 (F A (k+1+(x.t.length - k)) c) (k+1+(x.t.length - k)) (((x.t.flatMap ar.enc).take (k * 2)++[O U kd,O U n])++(x.t.flatMap ar.enc).drop (k * 2))∧W9=W8.setCell ⟨W2.heap.size,0,none⟩ (F A (k+1+(x.t.length - k)) c))) (fun i w1 w2=>i ∉ [10,15,17]→Below w1.heap.size w1 w2) kZ kZ kZ (Sw.start jB.drew) ?_
   simp only [ax,Act.put,sA,gs0,gs1,Nat.zero_add,Nat.reduceAdd]
   refine af [10,15,17] (fun v w9=>∃ g,v=F (some ⟨g,0,none⟩) 0 0∧W4.heap.size≤g∧ai w9 g 104 []) ?sc0 (fun vs L9 w9 xl xj hB K9 xk=>?hc0) ?rc0
   case sc0 =>
    intro i9 yg hb9 ha9 v w1 w2 hv xJ
    have hb:=xJ (fun hm=>by
     simp only [mC,mN,oF] at hm hb9
     rcases hm with rfl | rfl | rfl
     ·exact hb9 sP
     ·exact hb9 sP
     ·exact hb9 sP)
    obtain ⟨g,e,hg,hl⟩:=hv
    exact ⟨g,e,hg,hl.below hb hl.lt⟩
   case hc0 =>
    replace xj:=sb xj xl
    simp only [Act.put,sA,gs0,gs1] at xk
    go_simp
    exact xk _ _ _ rfl ⟨_,rfl,xj.size,ai.new w9 104 #[]⟩ (Sw.stay xl kZ dD (xj.alloc xj.size _)) (fun _=>jB.alloc nR _)
   refine aa _ vb0 ?_
   refine aa _ (vb1c1 1 zg 0) ?_
   refine aa _ vb0 ?_
   apply aa
   case h1 =>
    intro vs L9 w9 xl xj hB K9 xk
    replace xj:=sb xj xl
    have d2:=fe hB 2
    have d3:=fe hB 3
    simp only [d2,d3] at xk ⊢
    simp only [Act.put,sA,gs0,gs1] at xk
    refine lM rfl 37 104 (.tmp 50) (.tmp 51) rfl Tryz.underlying37 2 gP x.TA x.t.length x.tc k (by rfl) (by rfl) hk xA ?_
    exact xk _ _ rfl (sy xl xj) bR
   refine af [10,15,17] (fun v w9=>∃ A c,v=F A (k) c∧w9.ownsRow W4.heap.size 104 2 (F A (k) c) (k) ((x.t.flatMap ar.enc).take (k * 2))) ?sc5 (fun vs L9 w9 xl xj hB K9 xk=>?hc5) ?rc5
   case sc5 =>
    intro i9 yg hb9 ha9 v w1 w2 hv xJ
    have hb:=xJ (fun hm=>by
     simp only [mC,mN,oF] at hm hb9
     rcases hm with rfl | rfl | rfl
     ·exact hb9 sP
     ·exact hb9 sP
     ·exact hb9 sP)
    obtain ⟨A,c,e,ho⟩:=hv
    exact ⟨A,c,e,ac ho hb⟩
   case hc5 =>
    replace xj:=sb xj xl
    have d4:=fe hB 4
    simp only [d4] at xk ⊢
    simp only [Act.put,sA,gs0,gs1] at xk
    obtain ⟨g,e0,hg,hl⟩:=fs hB 0
    simp only [e0] at xk ⊢
    refine lL rfl (.tmp 48) (.tmp 52) 37 rfl 104 _ 2 16 Tryz.underlying37 dO rfl oM oM W4.heap.size g (by rfl) hl hg W4.heap.size x.TA k x.tc _ (by rfl) (bi.take (bi.below zQ.ts xj) k hk) (fun u hu=>eJ u (List.mem_of_mem_take hu)) oM ?_
    intro v' w' ho hb
    obtain ⟨A',c',rfl⟩:=az ho
    exact xk _ _ _ rfl ⟨A',c',rfl,ho⟩ (Sw.stay xl kZ dD (xj.trans (hb.mono xj.size))) (fun _=>hb)
   refine aa _ vb0 ?_
   refine aa _ vb0 ?_
   refine aa _ (vb2 6 7) ?_
   refine af [10,15,17] (fun v w9=>∃ g c,v=F (some ⟨g,0,none⟩) 1 c∧ai w9 g 104 [O U kd,O U n]) ?sc9 (fun vs L9 w9 xl xj hB K9 xk=>?hc9) ?rc9
   case sc9 =>
    intro i9 yg hb9 ha9 v w1 w2 hv xJ
    have hb:=xJ (fun hm=>by
     simp only [mC,mN,oF] at hm hb9
     rcases hm with rfl | rfl | rfl
     ·exact hb9 sP
     ·exact hb9 sP
     ·exact hb9 sP)
    obtain ⟨g,c,e,hl⟩:=hv
    exact ⟨g,c,e,hl.below hb hl.lt⟩
   case hc9 =>
    replace xj:=sb xj xl
    have d8:=fe hB 8
    simp only [d8] at xk ⊢
    simp only [Act.put,sA,gs0,gs1] at xk
    go_simp
    exact xk _ _ _ rfl ⟨_,_,rfl,ai.new w9 104 #[O U kd,O U n]⟩ (Sw.stay xl kZ dD (xj.alloc xj.size _)) (fun _=>jB.alloc nR _)
   refine af [15,17] (fun v w9=>∃ A c,v=F A (k+1) c∧w9.ownsRow W4.heap.size 104 2 (F A (k+1) c) (k+1) ((x.t.flatMap ar.enc).take (k * 2)++[O U kd,O U n])) ?sc10 (fun vs L9 w9 xl xj hB K9 xk=>?hc10) ?rc10
   case sc10 =>
    intro i9 yg hb9 ha9 v w1 w2 hv xJ
    have hb:=xJ (fun hm=>by
     simp only [mC,mN,oF] at hm hb9
     rcases hm with rfl | rfl | rfl
     ·exact yg rfl
     ·exact hb9 sP
     ·exact hb9 sP)
    obtain ⟨A,c,e,ho⟩:=hv
    exact ⟨A,c,e,ac ho hb⟩
   case hc10 =>
    replace xj:=sb xj xl
    simp only [Act.put,sA,gs0,gs1] at xk
    obtain ⟨A,c,e5,ho⟩:=fs hB 5
    obtain ⟨g,c9,e9,hl⟩:=fs hB 9
    simp only [e5,e9] at xk ⊢
    refine jq rfl (.tmp 53) (.tmp 57) 37 rfl 104 _ 2 16 Tryz.underlying37 dO rfl oM oM W4.heap.size _ k _ (by rfl) ho w9.heap.size (some ⟨g,0,none⟩) 1 c9 [O U kd,O U n] (by rfl) (hl.reads rfl oM) (by simp [Value.oneCell']) oM xj.size ?_
    intro A' c' w' ho' _ hb
    exact xk _ _ _ rfl ⟨A',c',rfl,ho'⟩ (Sw.stay xl kZ dD (xj.trans hb)) nq
   refine aa _ vb0 ?_
   refine aa _ (vb1c1 11 zg 0) ?_
   refine aa _ vb0 ?_
   refine af [] (fun v w9=>∃ A,v=F A (x.t.length - k) (x.tc - k)∧∀ W9,Below W4.heap.size W4 W9→bi W9 W4.heap.size 2 A (x.t.length - k) ((x.t.flatMap ar.enc).drop (k * 2))) ?sc14 (fun vs L9 w9 xl xj hB K9 xk=>?hc14) ?rc14
   case sc14 =>
    intro i9 yg hb9 ha9 v w1 w2 hv xJ
    exact hv
   case hc14 =>
    replace xj:=sb xj xl
    have d12:=fe hB 12
    have d13:=fe hB 13
    simp only [d12,d13] at xk ⊢
    simp only [Act.put,sA,gs0,gs1] at xk
    refine km rfl 37 104 (.tmp 60) (.tmp 61) rfl Tryz.underlying37 2 gP x.TA x.t.length x.tc k (by rfl) (by rfl) hk xA ?_
    intro A' xS
    exact xk _ _ _ rfl ⟨A',rfl,fun W9 hW=>xS _ _ _ (bi.below zQ.ts hW)⟩ (sy xl xj) bR
   refine af [17] (fun v w9=>∃ A c,v=F A (k+1+(x.t.length - k)) c∧w9.ownsRow W4.heap.size 104 2 (F A (k+1+(x.t.length - k)) c) (k+1+(x.t.length - k)) (((x.t.flatMap ar.enc).take (k * 2)++[O U kd,O U n])++(x.t.flatMap ar.enc).drop (k * 2))) ?sc15 (fun vs L9 w9 xl xj hB K9 xk=>?hc15) ?rc15
   case sc15 =>
    intro i9 yg hb9 ha9 v w1 w2 hv xJ
    have hb:=xJ (fun hm=>by
     simp only [mC,mN,oF] at hm hb9
     rcases hm with rfl | rfl | rfl
     ·exact absurd (ha9.symm.trans (show bU .any _ _ _ _=true by kernel_rfl)) dD
     ·exact yg rfl
     ·exact hb9 sP)
    obtain ⟨A,c,e,ho⟩:=hv
    exact ⟨A,c,e,ac ho hb⟩
   case hc15 =>
    replace xj:=sb xj xl
    simp only [Act.put,sA,gs0,gs1] at xk
    obtain ⟨A,c,e10,ho⟩:=fs hB 10
    obtain ⟨A14,e14,hr⟩:=fs hB 14
    simp only [e10,e14] at xk ⊢
    refine jq rfl (.tmp 58) (.tmp 62) 37 rfl 104 _ 2 16 Tryz.underlying37 dO rfl oM oM W4.heap.size _ (k+1) _ (by rfl) ho W4.heap.size A14 (x.t.length - k) (x.tc - k) _ (by rfl) (hr w9 xj) (fun u hu=>eJ u (List.mem_of_mem_drop hu)) oM xj.size ?_
    intro A' c' w' ho' _ hb
    exact xk _ _ _ rfl ⟨A',c',rfl,ho'⟩ (Sw.stay xl kZ dD (xj.trans hb)) nq
   refine aa _ vb0 ?_
   refine aa (undef) (fun vs L9 w9 xl xj hB K9 xk=>?hc17) ?rc17
   case hc17 =>
    replace xj:=xj.here xl
    have d16:=fe hB 16
    simp only [d16] at xk ⊢
    obtain ⟨A,c,e15,ho⟩:=fs hB 15
    simp only [e15] at xk ⊢
    have P9:=P1b.below xj P1b.lt
    have q0:=P9.cell 0
    have f0:=P9.frozen 0
    simp only [List.getElem?_cons_zero] at q0
    have ho:=jZ ho
    go_simp
    exact xk _ _ rfl (Sw.turn ⟨w9,A,c,xj,ho.out,rfl⟩) nq
   refine au fun vs L9 w9 xv xj hB=>?_
   replace xj:=xj.done xv dD
   obtain ⟨W8,A,c,xm,Dk,rfl⟩:=xj
   clear hB xv
   have P8:=P1b.below xm P1b.lt
   have hoT:=am Dk P8 cd 0 (F A (k+1+(x.t.length - k)) c)
   have hoO:=am (ac xL xm) P8 ch 0 (F A (k+1+(x.t.length - k)) c)
   have P9:=P8.set 0 (F A (k+1+(x.t.length - k)) c)
   have zn:=(zh.below xm zh.lt).other (p:=⟨W2.heap.size,0,none⟩) (by simp; omega) (F A (k+1+(x.t.length - k)) c)
   have b9:=(b4.trans (xm.mono b4.size)).setCell (p:=⟨W2.heap.size,0,none⟩) IJ (F A (k+1+(x.t.length - k)) c)
   have hoT:=ag hoT b4.size
   generalize W8.setCell ⟨W2.heap.size,0,none⟩ (F A (k+1+(x.t.length - k)) c)=W9 at hoT hoO P9 zn b9 ⊢
   have HT:=jZ (aR (v0:=F A (k+1+(x.t.length - k)) c) (v1:=F OA x.o.length oc) (v2:=O U x.gt) (v3:=O U x.sd) (v4:=O U x.ms) zn hoT cd)
   have HO:=jZ (aR (v0:=F A (k+1+(x.t.length - k)) c) (v1:=F OA x.o.length oc) (v2:=O U x.gt) (v3:=O U x.sd) (v4:=O U x.ms) zn hoO ch)
   have bz:=b9.trans (ci (v0:=F A (k+1+(x.t.length - k)) c) (v1:=F OA x.o.length oc) (v2:=O U x.gt) (v3:=O U x.sd) (v4:=O U x.ms) zn (Nat.le_succ _))
   simp only [List.set_cons_zero] at P9
   obtain ⟨k0,k1,k2,k3,k4⟩:=cells5 P9
   obtain ⟨z0,z1,z2,z3,z4⟩:=cells5 zn
   obtain ⟨f0,f1,f2,f3,f4⟩:=frz5 zn
   clear hoT hoO P9 P8 zn Dk c0
   go_wp2
   refine bodyPost_ret (v:=.agg #[F A (k+1+(x.t.length - k)) c,F OA x.o.length oc,O U x.gt,O U x.sd,O U x.ms]) (by simp [results,Tryz.results173,go_sem, *]) rfl ?_
   rw [IK.out,HK.out]
   have xt:((x.t.take k++[(⟨kd,n⟩ : ar)])++x.t.drop k).length=k+1+(x.t.length - k):=by
    rw [List.length_append,List.length_append,List.length_take,List.length_drop,List.length_singleton,Nat.min_eq_left hk]
   have yD:(((x.t.take k++[(⟨kd,n⟩ : ar)])++x.t.drop k).flatMap ar.enc)=(((x.t.flatMap ar.enc).take (k * 2)++[O U kd,O U n])++(x.t.flatMap ar.enc).drop (k * 2)):=by
    rw [List.flatMap_append,List.flatMap_append,jo ar.enc 2 ar.enc_len,jp ar.enc 2 ar.enc_len]
    rfl
   exact ej.of xt rfl rfl (by rw [xt,yD]; exact HT.out) HO.out bz
theorem qV (s:de) (w:World) :
  Calls xi 126 #[s.val] w fun e w'=>e=.returned (.bool s.okS)∧Below w.heap.size w w':=by
 obtain ⟨kd,st,pe,va⟩:=s
 have hb0:=bZ w (.cells #[O U kd,O U st,O U pe,O U va] 112)
 have L:=ai.new w 112 #[O U kd,O U st,O U pe,O U va]
 obtain ⟨ok,xq⟩ : ∃ ok,ok=de.okS ⟨kd,st,pe,va⟩:=⟨_,rfl⟩
 rw [← xq]
 unfold de.okS at xq
 simp only at xq
 obtain ⟨v1,BG⟩ : ∃ v,bX pe 1 999=v:=⟨_,rfl⟩
 obtain ⟨v2,xV⟩ : ∃ v,bX va 1 9999=v:=⟨_,rfl⟩
 obtain ⟨v3,zP⟩ : ∃ v,bX va 1 999=v:=⟨_,rfl⟩
 obtain ⟨v4,Bk⟩ : ∃ v,bX st 1 99=v:=⟨_,rfl⟩
 rw [BG,xV,zP,Bk] at xq
 have zB:=jZ BG; clear BG
 have yS:=jZ xV; clear xV
 have zD:=jZ zP; clear zP
 have Dd:=jZ Bk; clear Bk
 have HO:=jZ xq; clear xq
 have c0:∀ W,W=w.alloc (.cells #[O U kd,O U st,O U pe,O U va] 112)→∀ q:aq W.heap.size W,q.val.cell? ⟨w.heap.size,0,none⟩=some (O U kd):=by rintro _ rfl q; exact (q.cell L.lt).trans (L.cell 0)
 have c1:∀ W,W=w.alloc (.cells #[O U kd,O U st,O U pe,O U va] 112)→∀ q:aq W.heap.size W,q.val.cell? ⟨w.heap.size,1,none⟩=some (O U st):=by rintro _ rfl q; exact (q.cell L.lt).trans (L.cell 1)
 have c2:∀ W,W=w.alloc (.cells #[O U kd,O U st,O U pe,O U va] 112)→∀ q:aq W.heap.size W,q.val.cell? ⟨w.heap.size,2,none⟩=some (O U pe):=by rintro _ rfl q; exact (q.cell L.lt).trans (L.cell 2)
 have c3:∀ W,W=w.alloc (.cells #[O U kd,O U st,O U pe,O U va] 112)→∀ q:aq W.heap.size W,q.val.cell? ⟨w.heap.size,3,none⟩=some (O U va):=by rintro _ rfl q; exact (q.cell L.lt).trans (L.cell 3)
 clear L
 by_cases k1:kd=1
 ·subst k1
  cases h2:(pe == 0)
  all_goals cases v2
  all_goals
   go_enter Tryz.func126,Tryz.ntmps126
   go_wp2_with fail
   generalize hW:w.alloc (.cells #[O U 1,O U st,O U pe,O U va] 112)=W at hb0 ⊢
   have d0:=c0 W hW.symm
   have d1:=c1 W hW.symm
   have d2:=c2 W hW.symm
   have d3:=c3 W hW.symm
   clear c0 c1 c2 c3 hW
   refine aw kZ kZ ?_
   repeat (any_goals (first | go_big_quiet_step ((first | (go_at_call 134; with_reducible refine aB zB (aI pe 1 999 _)) | (go_at_call 134; with_reducible refine aB yS (aI va 1 9999 _)))) | (refine wpQuiet_step (fun K hK=>?_); go_simp; split <;> (refine hK _ ?_; clear hK K))))
   all_goals (refine wpQuiet_nil ?_; rintro _ ⟨q1,rfl⟩)
   all_goals (go_wp2_with (first | (go_at_call 134; with_reducible refine (aI va 1 999 _).mono ?_; rintro e w1 ⟨rfl,rfl⟩; rw [zD.out]) | (go_at_call 134; with_reducible refine (aI st 1 99 _).mono ?_; rintro e w1 ⟨rfl,rfl⟩; rw [Dd.out])))
   all_goals go_ret
   all_goals exact ⟨by rw [HO.out]; clear d0 d1 d2 d3; simp_all <;> rfl,hb0.trans (q1.below.mono hb0.size)⟩
 by_cases k2:kd=2
 ·subst k2
  cases v1
  all_goals cases v2
  all_goals
   go_enter Tryz.func126,Tryz.ntmps126
   go_wp2_with fail
   generalize hW:w.alloc (.cells #[O U 2,O U st,O U pe,O U va] 112)=W at hb0 ⊢
   have d0:=c0 W hW.symm
   have d1:=c1 W hW.symm
   have d2:=c2 W hW.symm
   have d3:=c3 W hW.symm
   clear c0 c1 c2 c3 hW
   refine aw kZ kZ ?_
   repeat (any_goals (first | go_big_quiet_step ((first | (go_at_call 134; with_reducible refine aB zB (aI pe 1 999 _)) | (go_at_call 134; with_reducible refine aB yS (aI va 1 9999 _)))) | (refine wpQuiet_step (fun K hK=>?_); go_simp; split <;> (refine hK _ ?_; clear hK K))))
   all_goals (refine wpQuiet_nil ?_; rintro _ ⟨q1,rfl⟩)
   all_goals (go_wp2_with (first | (go_at_call 134; with_reducible refine (aI va 1 999 _).mono ?_; rintro e w1 ⟨rfl,rfl⟩; rw [zD.out]) | (go_at_call 134; with_reducible refine (aI st 1 99 _).mono ?_; rintro e w1 ⟨rfl,rfl⟩; rw [Dd.out])))
   all_goals go_ret
   all_goals exact ⟨by rw [HO.out]; clear d0 d1 d2 d3; simp_all <;> rfl,hb0.trans (q1.below.mono hb0.size)⟩
 by_cases k3:kd=3
 ·subst k3
  cases v1
  all_goals cases v2
  all_goals
   go_enter Tryz.func126,Tryz.ntmps126
   go_wp2_with fail
   generalize hW:w.alloc (.cells #[O U 3,O U st,O U pe,O U va] 112)=W at hb0 ⊢
   have d0:=c0 W hW.symm
   have d1:=c1 W hW.symm
   have d2:=c2 W hW.symm
   have d3:=c3 W hW.symm
   clear c0 c1 c2 c3 hW
   refine aw kZ kZ ?_
   repeat (any_goals (first | go_big_quiet_step ((first | (go_at_call 134; with_reducible refine aB zB (aI pe 1 999 _)) | (go_at_call 134; with_reducible refine aB yS (aI va 1 9999 _)))) | (refine wpQuiet_step (fun K hK=>?_); go_simp; split <;> (refine hK _ ?_; clear hK K))))
   all_goals (refine wpQuiet_nil ?_; rintro _ ⟨q1,rfl⟩)
   all_goals (go_wp2_with (first | (go_at_call 134; with_reducible refine (aI va 1 999 _).mono ?_; rintro e w1 ⟨rfl,rfl⟩; rw [zD.out]) | (go_at_call 134; with_reducible refine (aI st 1 99 _).mono ?_; rintro e w1 ⟨rfl,rfl⟩; rw [Dd.out])))
   all_goals go_ret
   all_goals exact ⟨by rw [HO.out]; clear d0 d1 d2 d3; simp_all <;> rfl,hb0.trans (q1.below.mono hb0.size)⟩
 by_cases k4:kd=4
 ·subst k4
  cases v1
  all_goals cases h2:(pe == 0)
  all_goals cases v2
  all_goals
   go_enter Tryz.func126,Tryz.ntmps126
   go_wp2_with fail
   generalize hW:w.alloc (.cells #[O U 4,O U st,O U pe,O U va] 112)=W at hb0 ⊢
   have d0:=c0 W hW.symm
   have d1:=c1 W hW.symm
   have d2:=c2 W hW.symm
   have d3:=c3 W hW.symm
   clear c0 c1 c2 c3 hW
   refine aw kZ kZ ?_
   repeat (any_goals (first | go_big_quiet_step ((first | (go_at_call 134; with_reducible refine aB zB (aI pe 1 999 _)) | (go_at_call 134; with_reducible refine aB yS (aI va 1 9999 _)))) | (refine wpQuiet_step (fun K hK=>?_); go_simp; split <;> (refine hK _ ?_; clear hK K))))
   all_goals (refine wpQuiet_nil ?_; rintro _ ⟨q1,rfl⟩)
   all_goals (go_wp2_with (first | (go_at_call 134; with_reducible refine (aI va 1 999 _).mono ?_; rintro e w1 ⟨rfl,rfl⟩; rw [zD.out]) | (go_at_call 134; with_reducible refine (aI st 1 99 _).mono ?_; rintro e w1 ⟨rfl,rfl⟩; rw [Dd.out])))
   all_goals go_ret
   all_goals exact ⟨by rw [HO.out]; clear d0 d1 d2 d3; simp_all <;> rfl,hb0.trans (q1.below.mono hb0.size)⟩
 by_cases k5:kd=5
 ·subst k5
  cases v1
  all_goals cases h2:(va == 0)
  all_goals
   go_enter Tryz.func126,Tryz.ntmps126
   go_wp2_with fail
   generalize hW:w.alloc (.cells #[O U 5,O U st,O U pe,O U va] 112)=W at hb0 ⊢
   have d0:=c0 W hW.symm
   have d1:=c1 W hW.symm
   have d2:=c2 W hW.symm
   have d3:=c3 W hW.symm
   clear c0 c1 c2 c3 hW
   refine aw kZ kZ ?_
   repeat (any_goals (first | go_big_quiet_step ((first | (go_at_call 134; with_reducible refine aB zB (aI pe 1 999 _)) | (go_at_call 134; with_reducible refine aB yS (aI va 1 9999 _)))) | (refine wpQuiet_step (fun K hK=>?_); go_simp; split <;> (refine hK _ ?_; clear hK K))))
   all_goals (refine wpQuiet_nil ?_; rintro _ ⟨q1,rfl⟩)
   all_goals (go_wp2_with (first | (go_at_call 134; with_reducible refine (aI va 1 999 _).mono ?_; rintro e w1 ⟨rfl,rfl⟩; rw [zD.out]) | (go_at_call 134; with_reducible refine (aI st 1 99 _).mono ?_; rintro e w1 ⟨rfl,rfl⟩; rw [Dd.out])))
   all_goals go_ret
   all_goals exact ⟨by rw [HO.out]; clear d0 d1 d2 d3; simp_all <;> rfl,hb0.trans (q1.below.mono hb0.size)⟩
 by_cases k6:kd=6
 ·subst k6
  cases v1
  all_goals cases v3
  all_goals
   go_enter Tryz.func126,Tryz.ntmps126
   go_wp2_with fail
   generalize hW:w.alloc (.cells #[O U 6,O U st,O U pe,O U va] 112)=W at hb0 ⊢
   have d0:=c0 W hW.symm
   have d1:=c1 W hW.symm
   have d2:=c2 W hW.symm
   have d3:=c3 W hW.symm
   clear c0 c1 c2 c3 hW
   refine aw kZ kZ ?_
   repeat (any_goals (first | go_big_quiet_step ((first | (go_at_call 134; with_reducible refine aB zB (aI pe 1 999 _)) | (go_at_call 134; with_reducible refine aB yS (aI va 1 9999 _)))) | (refine wpQuiet_step (fun K hK=>?_); go_simp; split <;> (refine hK _ ?_; clear hK K))))
   all_goals (refine wpQuiet_nil ?_; rintro _ ⟨q1,rfl⟩)
   all_goals (go_wp2_with (first | (go_at_call 134; with_reducible refine (aI va 1 999 _).mono ?_; rintro e w1 ⟨rfl,rfl⟩; rw [zD.out]) | (go_at_call 134; with_reducible refine (aI st 1 99 _).mono ?_; rintro e w1 ⟨rfl,rfl⟩; rw [Dd.out])))
   all_goals go_ret
   all_goals exact ⟨by rw [HO.out]; clear d0 d1 d2 d3; simp_all <;> rfl,hb0.trans (q1.below.mono hb0.size)⟩
 have e1:(kd == 1)=false:=by simp [k1]
 have e2:(kd == 2)=false:=by simp [k2]
 have e3:(kd == 3)=false:=by simp [k3]
 have e4:(kd == 4)=false:=by simp [k4]
 have e5:(kd == 5)=false:=by simp [k5]
 have e6:(kd == 6)=false:=by simp [k6]
 go_enter Tryz.func126,Tryz.ntmps126
 go_wp2_with fail
 generalize hW:w.alloc (.cells #[O U kd,O U st,O U pe,O U va] 112)=W at hb0 ⊢
 have d0:=c0 W hW.symm
 have d1:=c1 W hW.symm
 have d2:=c2 W hW.symm
 have d3:=c3 W hW.symm
 clear c0 c1 c2 c3 hW
 refine aw kZ kZ ?_
 repeat (any_goals (first | go_big_quiet_step ((first | (go_at_call 134; with_reducible refine aB zB (aI pe 1 999 _)) | (go_at_call 134; with_reducible refine aB yS (aI va 1 9999 _)))) | (refine wpQuiet_step (fun K hK=>?_); go_simp; split <;> (refine hK _ ?_; clear hK K))))
 all_goals (refine wpQuiet_nil ?_; rintro _ ⟨q1,rfl⟩)
 all_goals (go_wp2_with (first | (go_at_call 134; with_reducible refine (aI va 1 999 _).mono ?_; rintro e w1 ⟨rfl,rfl⟩; rw [zD.out]) | (go_at_call 134; with_reducible refine (aI st 1 99 _).mono ?_; rintro e w1 ⟨rfl,rfl⟩; rw [Dd.out])))
 all_goals go_ret
 all_goals exact ⟨by rw [HO.out]; clear d0 d1 d2 d3; simp_all <;> rfl,hb0.trans (q1.below.mono hb0.size)⟩
def dz (w:World) (R:Oc × Bool) (e:Ending) (w' : World):Prop :=
 ∃ TA tc OA oc,e=.returned (.tuple #[.agg #[F TA R.1.t.length tc,F OA R.1.o.length oc,O U R.1.gt,O U R.1.sd,O U R.1.ms],.bool R.2])∧w'.ownsRow w.heap.size 104 2 (F TA R.1.t.length tc) R.1.t.length (R.1.t.flatMap ar.enc) ∧
  w'.ownsRow w.heap.size 147 3 (F OA R.1.o.length oc) R.1.o.length (R.1.o.flatMap ae.enc)∧Below w.heap.size w w'
set_option maxRecDepth 100000 in
theorem qW (hM:∀ (x:aN) (s:de) (w:World),aQ w w.heap.size x→bK x→x.t.length≤x.tc→s.okS=true→Calls xi 127 #[x.val,s.val] w (dz w (gj x.c s)))
  (x:aN) (s:de) (w:World) (h:aQ w w.heap.size x) (xA:x.t.length≤x.tc) :
  Calls xi 76 #[x.val,s.val] w (aE w (if ap x && s.okS then qT (gj x.c s) else none)):=by
 obtain ⟨kd,st,pe,va⟩:=s
 have L1:=((ai.new w 40 #[F x.TA x.t.length x.tc,F x.OA x.o.length x.oc,O U x.gt,O U x.sd,O U x.ms]).alloc (.cells #[O U kd,O U st,O U pe,O U va] 112)).alloc (.cells #[F none 0 0,F none 0 0,O U 0,O U 0,O U 0] 40)
 have L2:=(ai.new1 w (.cells #[F x.TA x.t.length x.tc,F x.OA x.o.length x.oc,O U x.gt,O U x.sd,O U x.ms] 40) 112 #[O U kd,O U st,O U pe,O U va]).alloc (.cells #[F none 0 0,F none 0 0,O U 0,O U 0,O U 0] 40)
 have L3:=ai.new2 w (.cells #[F x.TA x.t.length x.tc,F x.OA x.o.length x.oc,O U x.gt,O U x.sd,O U x.ms] 40) (.cells #[O U kd,O U st,O U pe,O U va] 112) 40 #[F none 0 0,F none 0 0,O U 0,O U 0,O U 0]
 have b1:=bZ w (.cells #[F x.TA x.t.length x.tc,F x.OA x.o.length x.oc,O U x.gt,O U x.sd,O U x.ms] 40)
 have b2:=b1.alloc b1.size (.cells #[O U kd,O U st,O U pe,O U va] 112)
 have b3:=b2.alloc b2.size (.cells #[F none 0 0,F none 0 0,O U 0,O U 0,O U 0] 40)
 clear b1 b2
 have cV:=fun W hW=>ei x W hW
 have cO:=fun W=>qV ⟨kd,st,pe,va⟩ W
 have cT:=fun (G:bK x) (hs:de.okS ⟨kd,st,pe,va⟩=true) W hW=>hM x ⟨kd,st,pe,va⟩ W hW G xA hs
 clear hM
 cases hg:ap x
 ·rw [hg] at cV
  rw [show (if false && de.okS ⟨kd,st,pe,va⟩ then qT (gj x.c ⟨kd,st,pe,va⟩) else none)=none from rfl]
  clear hg cO cT
  ·skip
   go_enter Tryz.func76,Tryz.ntmps76
   go_wp2_with fail
   generalize (((w.alloc (.cells #[F x.TA x.t.length x.tc,F x.OA x.o.length x.oc,O U x.gt,O U x.sd,O U x.ms] 40)).alloc (.cells #[O U kd,O U st,O U pe,O U va] 112)).alloc (.cells #[F none 0 0,F none 0 0,O U 0,O U 0,O U 0] 40))=W3 at L1 L2 L3 b3 ⊢
   have hR:=h.up b3 nR
   refine (cV W3 hR).mono ?_
   rintro e W4 ⟨rfl,xy⟩
   have k4:=b3.trans (xy.mono b3.size)
   have yA:=L3.below xy L3.lt
   have z0:=yA.cell 0
   have z1:=yA.cell 1
   have z2:=yA.cell 2
   have z3:=yA.cell 3
   have z4:=yA.cell 4
   obtain ⟨f0,f1,f2,f3,f4⟩:=frz5 yA
   simp only [gz0,gz1] at z0 z1 z2 z3 z4
   have xC:=(gw5 W4 (w.heap.size+1+1) (F none 0 0) (F none 0 0) (O U 0) (O U 0) (O U 0))
   have bz:=k4.grown xC k4.size (by rintro _ ⟨⟩; omega)
   clear xC
   go_wp2
   refine bodyPost_ret (v:=.tuple #[.agg #[F none 0 0,F none 0 0,O U 0,O U 0,O U 0],.bool false]) (by simp [results,Tryz.results76,go_sem, *]) rfl ?_
   exact aE.no rfl bz
 ·have G:=bu.1 hg
  rw [hg] at cV
  have cT:=cT G
  clear hg G
  cases hs:de.okS ⟨kd,st,pe,va⟩
  ·rw [hs] at cO
   rw [show (if true && false then qT (gj x.c ⟨kd,st,pe,va⟩) else none)=none from rfl]
   clear hs cT
   go_enter Tryz.func76,Tryz.ntmps76
   go_wp2_with fail
   generalize (((w.alloc (.cells #[F x.TA x.t.length x.tc,F x.OA x.o.length x.oc,O U x.gt,O U x.sd,O U x.ms] 40)).alloc (.cells #[O U kd,O U st,O U pe,O U va] 112)).alloc (.cells #[F none 0 0,F none 0 0,O U 0,O U 0,O U 0] 40))=W3 at L1 L2 L3 b3 ⊢
   have hR:=h.up b3 nR
   refine (cV W3 hR).mono ?_
   rintro e W4 ⟨rfl,xy⟩
   have Dm:=L2.below xy L2.lt
   obtain ⟨s0,s1,s2,s3⟩:=cells4 Dm
   go_wp2_with fail
   refine (cO W4).mono ?_
   rintro e W5 ⟨rfl,hb5⟩
   clear s0 s1 s2 s3
   have k5:=b3.trans ((av xy hb5).mono b3.size)
   have yA:=L3.below (av xy hb5) L3.lt
   have z0:=yA.cell 0
   have z1:=yA.cell 1
   have z2:=yA.cell 2
   have z3:=yA.cell 3
   have z4:=yA.cell 4
   obtain ⟨f0,f1,f2,f3,f4⟩:=frz5 yA
   simp only [gz0,gz1] at z0 z1 z2 z3 z4
   have xC:=(gw5 W5 (w.heap.size+1+1) (F none 0 0) (F none 0 0) (O U 0) (O U 0) (O U 0))
   have bz:=k5.grown xC k5.size (by rintro _ ⟨⟩; omega)
   clear xC
   go_wp2
   refine bodyPost_ret (v:=.tuple #[.agg #[F none 0 0,F none 0 0,O U 0,O U 0,O U 0],.bool false]) (by simp [results,Tryz.results76,go_sem, *]) rfl ?_
   exact aE.no rfl bz
  ·have cT:=cT hs
   rw [hs] at cO
   rw [show (if true && true then qT (gj x.c ⟨kd,st,pe,va⟩) else none)=qT (gj x.c ⟨kd,st,pe,va⟩) from rfl]
   clear hs
   generalize gj x.c ⟨kd,st,pe,va⟩=R at cT ⊢
   obtain ⟨r,ok⟩:=R
   go_enter Tryz.func76,Tryz.ntmps76
   go_wp2_with fail
   generalize (((w.alloc (.cells #[F x.TA x.t.length x.tc,F x.OA x.o.length x.oc,O U x.gt,O U x.sd,O U x.ms] 40)).alloc (.cells #[O U kd,O U st,O U pe,O U va] 112)).alloc (.cells #[F none 0 0,F none 0 0,O U 0,O U 0,O U 0] 40))=W3 at L1 L2 L3 b3 ⊢
   have hR:=h.up b3 nR
   refine (cV W3 hR).mono ?_
   rintro e W4 ⟨rfl,xy⟩
   have Dm:=L2.below xy L2.lt
   obtain ⟨s0,s1,s2,s3⟩:=cells4 Dm
   go_wp2_with fail
   refine (cO W4).mono ?_
   rintro e W5 ⟨rfl,hb5⟩
   clear s0 s1 s2 s3
   have Dm:=L2.below (av xy hb5) L2.lt
   have MI:=L1.below (av xy hb5) L1.lt
   obtain ⟨s0,s1,s2,s3⟩:=cells4 Dm
   obtain ⟨y0,y1,y2,y3,y4⟩:=cells5 MI
   go_wp2_with fail
   refine (cT W5 (hR.then (av xy hb5))).mono ?_
   rintro e W6 ⟨TA,tc,OA,oc,rfl,hT,hO,xT⟩
   simp only at hT hO
   clear s0 s1 s2 s3 y0 y1 y2 y3 y4
   have k56:=av (av xy hb5) xT
   have xo:=(Below.refl W6.heap.size W6).alloc nR (.cells #[F TA r.t.length tc,F OA r.o.length oc,O U r.gt,O U r.sd,O U r.ms] 40)
   have k7:=b3.trans ((av k56 xo).mono b3.size)
   have yA:=L3.below (av k56 xo) L3.lt
   have s36:W3.heap.size≤W5.heap.size:=(av xy hb5).size
   have CA:=ac hT xo
   have BJ:=ac hO xo
   have z0:=yA.cell 0
   have z1:=yA.cell 1
   have z2:=yA.cell 2
   have z3:=yA.cell 3
   have z4:=yA.cell 4
   obtain ⟨f0,f1,f2,f3,f4⟩:=frz5 yA
   simp only [gz0,gz1] at z0 z1 z2 z3 z4
   clear hT hO
   cases ok
   ·have xC:=(gw5 (W6.alloc (.cells #[F TA r.t.length tc,F OA r.o.length oc,O U r.gt,O U r.sd,O U r.ms] 40)) (w.heap.size+1+1) (F none 0 0) (F none 0 0) (O U 0) (O U 0) (O U 0))
    have bz:=k7.grown xC k7.size (by rintro _ ⟨⟩; omega)
    clear xC CA BJ xo
    go_wp2
    refine bodyPost_ret (v:=.tuple #[.agg #[F none 0 0,F none 0 0,O U 0,O U 0,O U 0],.bool false]) (by simp [results,Tryz.results76,go_sem, *]) rfl ?_
    exact aE.no rfl bz
   ·have xC:=(gw5 (W6.alloc (.cells #[F TA r.t.length tc,F OA r.o.length oc,O U r.gt,O U r.sd,O U r.ms] 40)) (w.heap.size+1+1) (F TA r.t.length tc) (F OA r.o.length oc) (O U r.gt) (O U r.sd) (O U r.ms))
    have bz:=k7.grown xC k7.size (by rintro _ ⟨⟩; omega)
    have R8:=jZ (ag (ak CA yA cd xC) (jT b3.size s36))
    have R9:=jZ (ag (ak BJ yA ch xC) (jT b3.size s36))
    clear xC CA BJ xo
    go_wp2
    refine bodyPost_ret (v:=.tuple #[.agg #[F TA r.t.length tc,F OA r.o.length oc,O U r.gt,O U r.sd,O U r.ms],.bool true]) (by simp [results,Tryz.results76,go_sem, *]) rfl ?_
    exact aE.yes rfl R8.out R9.out bz
theorem sn {k p:Int} {l:List ae} {i:Nat} (h:i < l.length):aO k p (l.drop i)=if ft k p l[i] then l[i].c else aO k p (l.drop (i+1)):=by
 rw [List.drop_eq_getElem_cons h,aO]
theorem gE (x:aN) (kd pe:Int) (w:World) (h:aQ w w.heap.size x) :
  Calls xi 201 #[x.val,O U kd,O U pe] w fun e w'=>e=.returned (O U (aO kd pe x.o))∧Below w.heap.size w w':=by
 have hl:=h.os.big
 have HF:Hid (aO kd pe (x.o.drop 0)=aO kd pe x.o):=rfl
 go_enter Tryz.func201,Tryz.ntmps201
 go_wp2
 have hb0:=bZ w (.cells #[F x.TA x.t.length x.tc,F x.OA x.o.length x.oc,O U x.gt,O U x.sd,O U x.ms] 40)
 have hS:=nW.of (x:=x) (ai.new w 40 #[F x.TA x.t.length x.tc,F x.OA x.o.length x.oc,O U x.gt,O U x.sd,O U x.ms])
 have hR:=h.up hb0 nR
 generalize w.alloc (.cells #[F x.TA x.t.length x.tc,F x.OA x.o.length x.oc,O U x.gt,O U x.sd,O U x.ms] 40)=W at hb0 hS hR ⊢
 have c1:=hS.c1
 have yQ:=hR.os.el
 go_loopw [7] (fun i wr=>∃ (k:Nat),k≤x.o.length∧i=O U k∧(∃ q:aq W.heap.size W,wr=q.val)∧Hid (aO kd pe (x.o.drop k)=aO kd pe x.o)) (fun i _=>x.o.length - (intOf i).toNat)
 case atStart=>exact ⟨0,Nat.zero_le _,rfl,⟨aq.start _ _,rfl⟩,HF⟩
 case round =>
  obtain ⟨k,hk,rfl,⟨q,rfl⟩,HR⟩:=hrel
  by_cases xu:k < x.o.length
  ·obtain ⟨b,off,hA,hb,hcell⟩:=yQ oM
   obtain ⟨e0,e1,e2⟩:=hcell k xu
   have xM:=sn (k:=kd) (p:=pe) xu
   obtain ⟨r,xW⟩ : ∃ r,r=x.o[k]:=⟨_,rfl⟩
   rw [← xW] at e0 e1 e2 xM
   simp only [hA] at c1
   clear xW hcell yQ hA
   by_cases hz:r.k=kd
   ·by_cases hy:r.p=pe
    ·have HE:Hid (r.c=aO kd pe x.o):=by rw [if_pos (eh.2 ⟨hz,hy⟩)] at xM; rw [← xM]; exact HR.out
     have hv:(r.k == kd)=true:=by simp [hz]
     have hu:(r.p == pe)=true:=by simp [hy]
     clear xM hz hy
     go_wp2
     go_ret
     exact ⟨by rw [← HE.out]; rfl,hb0.trans (q.below.mono hb0.size)⟩
    ·have HE:Hid (aO kd pe (x.o.drop (k+1))=aO kd pe x.o):=by rw [if_neg (fun hh=>hy (eh.1 hh).2)] at xM; rw [← xM]; exact HR.out
     have hv:(r.k == kd)=true:=by simp [hz]
     have hu:(r.p == pe)=false:=by simp [hy]
     clear xM hz hy
     go_wp2
     go_roundw
     case rel=>exact ⟨k+1,oM,by go_num,⟨q,rfl⟩,HE⟩
     case measure=>simp [intOf]; omega
   ·have HE:Hid (aO kd pe (x.o.drop (k+1))=aO kd pe x.o):=by rw [if_neg (fun hh=>hz (eh.1 hh).1)] at xM; rw [← xM]; exact HR.out
    have hv:(r.k == kd)=false:=by simp [hz]
    clear xM hz
    go_wp2
    go_roundw
    case rel=>exact ⟨k+1,oM,by go_num,⟨q,rfl⟩,HE⟩
    case measure=>simp [intOf]; omega
  ·have HE:Hid (0=aO kd pe x.o):=by
    have h1:=HR.out; rw [List.drop_eq_nil_of_le oM] at h1; exact h1
   go_wp2
   go_ret
   exact ⟨by rw [← HE.out]; rfl,hb0.trans (q.below.mono hb0.size)⟩
end Go.Proofs.YtoeoimhemojdeaaGreatDoor
