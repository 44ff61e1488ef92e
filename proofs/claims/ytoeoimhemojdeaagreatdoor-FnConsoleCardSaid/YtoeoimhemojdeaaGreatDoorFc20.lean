/- Lemmas. -/
import Derived.Lib.ItoaNum
import Derived.Lib.ItoaLen
import Derived.Lib.AtoiTie
import Derived.Test.YtoeoimhemojdeaaGreatDoorFc17
import Derived.Test.YtoeoimhemojdeaaGreatDoorFc19

set_option linter.unusedVariables false
set_option linter.unusedSimpArgs false
set_option maxHeartbeats 8000000
open Go.Value renaming int → O, slice → F, string → vw
open Go.IntKind renaming i64 → U
open Go.Proofs.Tryz renaming prog → vx

namespace Go.Proofs.YtoeoimhemojdeaaGreatDoor
open Go.RowKit
def eW (w:World) (B:Nat) (y:Oc) (v:Value):Prop :=
 ∃ TA tc OA oc,v=.agg #[F TA y.t.length tc,F OA y.o.length oc,O U y.gt,O U y.sd,O U y.ms]∧w.ownsRow B 104 2 (F TA y.t.length tc) y.t.length (y.t.flatMap aq.enc) ∧
  w.ownsRow B 147 3 (F OA y.o.length oc) y.o.length (y.o.flatMap ae.enc)
def pc (w:World) (y:Oc) (e:Ending) (w' : World):Prop:=∃ v,e=.returned v∧eW w' w.heap.size y v∧Below w.heap.size w w'
theorem eW.below {w w' : World} {B:Nat} {y:Oc} {v:Value} (h:eW w B y v) (hb:Below w.heap.size w w'):eW w' B y v:=by
 obtain ⟨TA,tc,OA,oc,e,h1,h2⟩:=h
 exact ⟨TA,tc,OA,oc,e,ac h1 hb,ac h2 hb⟩
theorem eW.lower {w:World} {B B' : Nat} {y:Oc} {v:Value} (h:eW w B y v) (hB:B'≤B):eW w B' y v:=by
 obtain ⟨TA,tc,OA,oc,e,h1,h2⟩:=h
 exact ⟨TA,tc,OA,oc,e,ai h1 hB,ai h2 hB⟩
theorem eW.as {w:World} {B:Nat} {y:Oc} {v:Value} (h:eW w B y v):∃ x:aO,v=x.val∧x.c=y∧aP w w.heap.size x∧x.t.length≤x.tc:=by
 obtain ⟨TA,tc,OA,oc,e,h1,h2⟩:=h
 exact ⟨y.at TA tc OA oc,e,rfl,⟨ay h1,ay h2⟩,iz h1⟩
theorem eh.v {w w' : World} {y:Oc} {e:Ending} (h:eh w y e w'):pc w y e w':=by
 obtain ⟨TA,tc,OA,oc,he,h1,h2,hb⟩:=h
 exact ⟨_,he,⟨TA,tc,OA,oc,rfl,h1,h2⟩,hb⟩
structure kx (y:Oc):Prop where
 tl:y.t.length≤1000000
 ol:y.o.length≤1000000
 tc:∀ t ∈ y.t, -1000000000≤t.c∧t.c≤1000000000
 ok:∀ o ∈ y.o,(1≤o.k∧o.k≤99)∧(1≤o.p∧o.p≤999)
theorem bH.small {x:aO} (G:bH x):kx x.c:=by
 refine ⟨by have:=G.tl; show x.t.length≤_; omega,by have:=G.ol; show x.o.length≤_; omega,fun t ht=>?_,fun o ho=>?_⟩
 ·obtain ⟨j,hj,rfl⟩:=List.getElem_of_mem (show t ∈ x.t from ht)
  have:=(aq.bounds (G.tall j hj)).2
  omega
 ·obtain ⟨j,hj,rfl⟩:=List.getElem_of_mem (show o ∈ x.o from ho)
  have:=ae.bounds (G.oall j hj)
  exact ⟨ew G.tall this.1,this.2.1⟩
theorem bH.tcs {x:aO} (G:bH x):∀ t ∈ x.t,0≤t.c∧t.c≤9999:=fun t ht=>by
 obtain ⟨j,hj,rfl⟩:=List.getElem_of_mem ht
 exact (aq.bounds (G.tall j hj)).2
theorem bH.move_bd {x:aO} (G:bH x) (st pe va:Int):0≤aN st va (aL st pe 0 x.o)∧aN st va (aL st pe 0 x.o)≤9999:=by
 rcases lF (k:=st) (p:=va) (aL st pe 0 x.o) with h | ⟨o,ho,_,hc⟩
 ·omega
 ·obtain ⟨j,hj,e⟩:=List.getElem_of_mem ((ff x.o).subset ho)
  have:=(ae.bounds (G.oall j hj)).2.2
  rw [e] at this; omega
theorem sH {k p c:Int} {l:List ae} (hk:1≤k∧k≤99) (hp:1≤p∧p≤999) (h:∀ o ∈ l,(1≤o.k∧o.k≤99)∧(1≤o.p∧o.p≤999)):∀ o ∈ aL k p c l,(1≤o.k∧o.k≤99)∧(1≤o.p∧o.p≤999):=fun o ho=>by
 rcases oX l c o ho with h1 | rfl
 ·exact h o h1
 ·exact ⟨hk,hp⟩
theorem sf {k p:Int} : ∀ (l:List ae) (c:Int),(aL k p c l).length≤l.length+1
 | [],c=>by rw [aL]; split <;> simp
 | o :: l,c=>by
  have h0:=sf (k:=k) (p:=p) l c
  have hz:(aL k p 0 l).length≤l.length:=(ff l).length_le
  rw [aL]
  split
  ·split <;> simp <;> omega
  ·split <;> simp <;> omega
theorem mt (ts:List aq) (kd n:Int):(aj ts kd n).length≤ts.length+1:=by
 have:=jY ts kd
 unfold aj; split
 ·simp
 ·simp; omega
theorem kx.at {y:Oc} (h:kx y) {k p c:Int} (hk:1≤k∧k≤99) (hp:1≤p∧p≤999) (hl:y.o.length≤100):kx ⟨y.t,aL k p c y.o,y.gt,y.sd,y.ms⟩ :=
 ⟨h.tl,by have:=sf (k:=k) (p:=p) y.o c; show (aL k p c y.o).length≤_; omega,h.tc,sH hk hp h.ok⟩
theorem ky {ts:List aq} {kd n:Int} (hn : -1000000≤n∧n≤1000000) (h:∀ t ∈ ts, -1000000≤t.c∧t.c≤1000000):∀ t ∈ aj ts kd n, -1000000000≤t.c∧t.c≤1000000000:=by
 intro t ht
 unfold aj at ht
 split at ht
 ·rename_i hx
  rcases List.mem_or_eq_of_mem_set ht with h1 | rfl
  ·have:=h t h1; omega
  ·have hl:=lE hx
   have:ts.getD (ax ts kd).toNat default ∈ ts:=by
    rw [List.getD_eq_getElem?_getD,List.getElem?_eq_getElem hl]; exact List.getElem_mem hl
   have:=h _ this
   simp only; omega
 ·rcases List.mem_append.1 ht with h1 | h1
  ·have:=h t (List.mem_of_mem_take h1); omega
  ·rcases List.mem_cons.1 h1 with rfl | h1
   ·simp only; omega
   ·have:=h t (List.mem_of_mem_drop h1); omega
theorem vi (x:aO) (kd n:Int) (w:World) (h:aP w w.heap.size x) (S:kx x.c) (hn : -1000000000≤n∧n≤1000000000) (vM:x.t.length≤x.tc) :
  Calls vx 173 #[x.val,O U kd,O U n] w (pc w ⟨aj x.t kd n,x.o,x.gt,x.sd,x.ms⟩):=by
 have hb:∀ i (hi:i < x.t.length), -1000000000≤x.t[i].c∧x.t[i].c≤1000000000:=fun i hi=>S.tc _ (List.getElem_mem hi)
 by_cases hx:0≤ax x.t kd
 ·exact (sD x kd n w h S.tl S.ol hb hn hx).mono fun _ _ h=>h.v
 ·exact (sF x kd n w h S.tl S.ol hb hn hx vM).mono fun _ _ h=>h.v
theorem vj (x:aO) (kd pe c:Int) (w:World) (h:aP w w.heap.size x) (S:kx x.c) (ES:1≤kd∧kd≤99) (wV:1≤pe∧pe≤999) :
  Calls vx 202 #[x.val,O U kd,O U pe,O U c] w (pc w ⟨x.t,aL kd pe c x.o,x.gt,x.sd,x.ms⟩) :=
 (sG x kd pe c w h S.tl S.ol ES wV (fun i hi=>S.ok _ (List.getElem_mem hi))).mono fun _ _ h=>h.v
theorem vq {B:Nat} {y:Oc} {v:Value} {w:World} (kd pe c:Int) (h:eW w B y v) (S:kx y) (ES:1≤kd∧kd≤99) (wV:1≤pe∧pe≤999) :
  Calls vx 202 #[v,O U kd,O U pe,O U c] w (pc w ⟨y.t,aL kd pe c y.o,y.gt,y.sd,y.ms⟩):=by
 obtain ⟨x,rfl,rfl,hr,_⟩:=h.as
 exact vj x kd pe c w hr S ES wV
theorem vr {B:Nat} {y:Oc} {v:Value} {w:World} (kd pe:Int) (h:eW w B y v) :
  Calls vx 201 #[v,O U kd,O U pe] w fun e w'=>e=.returned (O U (aN kd pe y.o))∧Below w.heap.size w w':=by
 obtain ⟨x,rfl,rfl,hr,_⟩:=h.as
 exact gm x kd pe w hr
theorem tT {B:Nat} {y:Oc} {v:Value} {w:World} (h:eW w B y v) :
  Calls vx 82 #[v] w fun e w'=>e=.returned (.bool y.good)∧Below w.heap.size w w':=by
 obtain ⟨x,rfl,rfl,hr,_⟩:=h.as
 exact ef x w hr
def lg (w:World) (B g:Nat) (y:Oc):Prop:=∃ TA tc OA oc,aC w B g (F TA y.t.length tc) (F OA y.o.length oc) y
theorem lg.then {w w' : World} {B g:Nat} {y:Oc} (h:lg w B g y) (hb:Below w.heap.size w w'):lg w' B g y:=by
 obtain ⟨TA,tc,OA,oc,h⟩:=h; exact ⟨TA,tc,OA,oc,h.then hb⟩
theorem eW.store {w:World} {B g:Nat} {y:Oc} {TA OA:Option Addr} {tc oc:Nat} {a b c d e:Value} (h1:w.ownsRow B 104 2 (F TA y.t.length tc) y.t.length (y.t.flatMap aq.enc)) (h2:w.ownsRow B 147 3 (F OA y.o.length oc) y.o.length (y.o.flatMap ae.enc))
  (hL:ah w g 40 [a,b,c,d,e]) (hB:B≤g):lg (dh w g (F TA y.t.length tc) (F OA y.o.length oc) (O U y.gt) (O U y.sd) (O U y.ms)) B g y :=
 ⟨TA,tc,OA,oc,ex hL,hB,aR hL h1 bX,aR hL h2 ce⟩
theorem dp.of {w w' : World} {R:Oc × Bool} {e:Ending} {TA OA:Option Addr} {tc oc:Nat} (he:e=.returned (.tuple #[.agg #[F TA R.1.t.length tc,F OA R.1.o.length oc,O U R.1.gt,O U R.1.sd,O U R.1.ms],.bool R.2])) {g:Nat}
  (h:aC w' w.heap.size g (F TA R.1.t.length tc) (F OA R.1.o.length oc) R.1) (hb:Below w.heap.size w w'):dp w R e w':=⟨TA,tc,OA,oc,he,h.t,h.o,hb⟩
theorem Sw.lies {s g gr:Nat} {t:TypeId} {cs:List Value} {W1 w:World} {C1:World→Prop} {L:Nat→Bool} (h:Sw s (fun W9=>Below W1.heap.size W1 W9) C1 L w)
  (Ke:∀ W,C1 W→∃ W8 v0 v1 v2 v3 v4,Below W1.heap.size W1 W8∧W=dh W8 gr v0 v1 v2 v3 v4) (hL:ah W1 g t cs) (vJ:g ≠ gr):ah w g t cs:=by
 unfold Sw at h
 split at h
 ·obtain ⟨W8,v0,v1,v2,v3,v4,hb,rfl⟩:=Ke _ h
  exact mr (hL.below hb hL.lt) vJ
 ·exact hL.below h hL.lt
def tU (w:World) (y:Oc) (v:Value):Prop:=∃ X:aO,v=X.val∧X.c=y∧aP w w.heap.size X∧X.t.length≤X.tc
theorem tU.below {w w' : World} {y:Oc} {v:Value} (h:tU w y v) (hb:Below w.heap.size w w'):tU w' y v:=by
 obtain ⟨X,h1,h2,h3,h4⟩:=h; exact ⟨X,h1,h2,h3.then hb,h4⟩
def tV (w:World) (y:Oc) (b:Bool) (e:Ending) (w' : World):Prop:=∃ v,e=.returned (.tuple #[v,.bool b])∧eW w' w.heap.size y v∧Below w.heap.size w w'
theorem aE.r {w w' : World} {D:Option Oc} {e:Ending} (h:aE w D e w'):tV w (cz D) D.isSome e w':=by
 obtain ⟨TA,tc,OA,oc,he,h1,h2,hb⟩:=h
 exact ⟨_,he,⟨TA,tc,OA,oc,rfl,h1,h2⟩,hb⟩
theorem tU.copy {x:aO} {w:World} {g1 g2:Nat} (h1:ah w g1 104 (x.t.flatMap aq.enc)) (h2:ah w g2 147 (x.o.flatMap ae.enc)) (hn:x.t.length≤1048576) (hm:x.o.length≤1048576):tU w x.c (x.copy g1 g2).val :=
 ⟨x.copy g1 g2,rfl,rfl,rh h1 h2 hn hm,Nat.le_refl _⟩
set_option maxRecDepth 100000 in
theorem pZ (x:aO) (st pe va:Int) (w:World) (h:aP w w.heap.size x) (G:bH x) (vM:x.t.length≤x.tc) (vX:1≤st∧st≤99) (wV:1≤pe∧pe≤999) (yo:1≤va∧va≤9999) :
  Calls vx 175 #[x.val,.agg #[O U 2,O U st,O U pe,O U va]] w (dp w ((⟨aj x.t st (-va),aL st pe (aN st pe x.o+va) x.o,x.gt,x.sd,x.ms⟩ : Oc),true)):=by
 have L1:=((ah.new w 40 #[F x.TA x.t.length x.tc,F x.OA x.o.length x.oc,O U x.gt,O U x.sd,O U x.ms]).alloc (.cells #[O U 2,O U st,O U pe,O U va] 112)).alloc (.cells #[F none 0 0,F none 0 0,O U 0,O U 0,O U 0] 40)
 have L2:=(ah.new1 w (.cells #[F x.TA x.t.length x.tc,F x.OA x.o.length x.oc,O U x.gt,O U x.sd,O U x.ms] 40) 112 #[O U 2,O U st,O U pe,O U va]).alloc (.cells #[F none 0 0,F none 0 0,O U 0,O U 0,O U 0] 40)
 have L3:=ah.new2 w (.cells #[F x.TA x.t.length x.tc,F x.OA x.o.length x.oc,O U x.gt,O U x.sd,O U x.ms] 40) (.cells #[O U 2,O U st,O U pe,O U va] 112) 40 #[F none 0 0,F none 0 0,O U 0,O U 0,O U 0]
 have b1:=bZ w (.cells #[F x.TA x.t.length x.tc,F x.OA x.o.length x.oc,O U x.gt,O U x.sd,O U x.ms] 40)
 have b2:=b1.alloc b1.size (.cells #[O U 2,O U st,O U pe,O U va] 112)
 have b3:=b2.alloc b2.size (.cells #[F none 0 0,F none 0 0,O U 0,O U 0,O U 0] 40)
 have Sx:=G.small
 have Cs:=G.tl
 have Ct:=G.ol
 have y6:=G.tcs
 obtain ⟨m1,m2⟩:=G.m
 obtain ⟨g1,g2⟩:=G.s
 obtain ⟨n1,n2⟩:=G.at_bd st pe
 obtain ⟨n,hn⟩ : ∃ n,aN st pe x.o=n:=⟨_,rfl⟩
 rw [hn] at n1 n2 ⊢
 clear b1 b2 G
 go_enter Tryz.func175,Tryz.ntmps175
 go_wp2_with fail
 generalize (((w.alloc (.cells #[F x.TA x.t.length x.tc,F x.OA x.o.length x.oc,O U x.gt,O U x.sd,O U x.ms] 40)).alloc (.cells #[O U 2,O U st,O U pe,O U va] 112)).alloc (.cells #[F none 0 0,F none 0 0,O U 0,O U 0,O U 0] 40))=W at L1 L2 L3 b3 ⊢
 have hR:=h.up b3 nR
 refine (gm x st pe W hR).mono ?_
 rintro e W1 ⟨rfl,vD⟩
 rw [hn]
 have xB:=hR.then vD
 have wq:=L1.below vD L1.lt
 have wi:=L2.below vD L2.lt
 have wF:=L3.below vD L3.lt
 have b4:=b3.trans (vD.mono b3.size)
 have xO:w.heap.size≤W1.heap.size:=b4.size
 have hn:=jZ hn
 clear L1 L2 L3 b3 vD hR h
 obtain ⟨c0,c1,c2,c3,c4⟩:=cells5 wq
 obtain ⟨s0,s1,s2,s3⟩:=cells4 wi
 obtain ⟨v1,v2⟩:=yo
 have S1:kx (⟨aj x.t st (-va),x.o,x.gt,x.sd,x.ms⟩ : Oc):=⟨by have:=mt x.t st (-va); show (aj x.t st (-va)).length≤_; omega,Sx.ol,ky oM (fun t ht=>by have:=y6 t ht; omega),Sx.ok⟩
 go_wp2
 obtain ⟨D1,xP⟩ : ∃ D:World→Prop,D=(fun W9=>∃ W8 TA tc OA oc,Below W1.heap.size W1 W8∧W8.ownsRow w.heap.size 104 2 (F TA ((⟨aj x.t st (-va),aL st pe (n+va) x.o,x.gt,x.sd,x.ms⟩ : Oc)).t.length tc) ((⟨aj x.t st (-va),aL st pe (n+va) x.o,x.gt,x.sd,x.ms⟩ : Oc)).t.length (((⟨aj x.t st (-va),aL st pe (n+va) x.o,x.gt,x.sd,x.ms⟩ : Oc)).t.flatMap aq.enc)∧W8.ownsRow w.heap.size 147 3 (F OA ((⟨aj x.t st (-va),aL st pe (n+va) x.o,x.gt,x.sd,x.ms⟩ : Oc)).o.length oc) ((⟨aj x.t st (-va),aL st pe (n+va) x.o,x.gt,x.sd,x.ms⟩ : Oc)).o.length (((⟨aj x.t st (-va),aL st pe (n+va) x.o,x.gt,x.sd,x.ms⟩ : Oc)).o.flatMap ae.enc)∧W9=dh W8 (w.heap.size+1+1) (F TA ((⟨aj x.t st (-va),aL st pe (n+va) x.o,x.gt,x.sd,x.ms⟩ : Oc)).t.length tc) (F OA ((⟨aj x.t st (-va),aL st pe (n+va) x.o,x.gt,x.sd,x.ms⟩ : Oc)).o.length oc) (O U ((⟨aj x.t st (-va),aL st pe (n+va) x.o,x.gt,x.sd,x.ms⟩ : Oc)).gt) (O U ((⟨aj x.t st (-va),aL st pe (n+va) x.o,x.gt,x.sd,x.ms⟩ : Oc)).sd) (O U ((⟨aj x.t st (-va),aL st pe (n+va) x.o,x.gt,x.sd,x.ms⟩ : Oc)).ms)):=⟨_,rfl⟩
 have Bv:∀ W,D1 W→∃ W8 v0 v1 v2 v3 v4,Below W1.heap.size W1 W8∧W=dh W8 (w.heap.size+1+1) v0 v1 v2 v3 v4:=by
  rw [xP]
  rintro _ ⟨W8,TA,tc,OA,oc,hq,_,_,e⟩
  exact ⟨W8,_,_,_,_,_,hq,e⟩
 have yA:=jZ xP; clear xP
 refine al (Sw 16 (fun W9=>Below W1.heap.size W1 W9) D1) (fun i w1 w2=>i ∉ [16]→Below w1.heap.size w1 w2) kZ kZ kZ (Sw.start jB.drew) ?_
 simp only [aw,Act.put,sA,gs0,gs1,Nat.zero_add,Nat.reduceAdd]
 refine aa _ (vb0C5 wq) ?_
 refine aa _ vb0 ?_
 refine aa _ (vb1c1 1 wi 1) ?_
 refine aa _ vb0 ?_
 refine aa _ (vb1c1 3 wi 3) ?_
 apply aa
 case h1 =>
  intro vs L9 w9 vA vy hB K9 vz
  replace vy:=sb vy vA
  have d4:=fe hB 4
  simp only [d4] at vz ⊢
  have i3:IntKind.i64.wrap (-va) = -va:=IntWalk.i64_in _ oM
  simp only [Act.put,sA,gs0,gs1] at vz
  go_simp
  exact vz _ _ rfl (sy vA vy) bR
 refine af [16] (fun v w9=>eW w9 w.heap.size (⟨aj x.t st (-va),x.o,x.gt,x.sd,x.ms⟩ : Oc) v) ?ss6 (fun vs L9 w9 vA vy hB K9 vz=>?hs6) ?rs6
 case ss6 =>
  intro i9 wD hb9 ha9 v w1 w2 hv vV
  have hb:=vV (fun hm=>by
   simp only [mC,mN,oF] at hm hb9
   subst hm
   ·exact hb9 sP)
  exact hv.below hb
 case hs6 =>
  replace vy:=sb vy vA
  have d0:=fe hB 0
  have d2:=fe hB 2
  have d5:=fe hB 5
  simp only [d0,d2,d5] at vz ⊢
  simp only [Act.put,sA,gs0,gs1] at vz
  go_simp
  refine (vi x st (-va) _ (xB.then vy) Sx oM vM).mono ?_
  rintro en w8 ⟨v8,rfl,AF,vB⟩
  exact vz _ _ _ rfl (AF.lower (jT xO vy.size)) (Sw.stay vA kZ dD (vy.trans (vB.mono vy.size))) (fun _=>vB)
 refine aa _ vb0 ?_
 refine aa _ (vb1c1 7 wi 1) ?_
 refine aa _ vb0 ?_
 refine aa _ (vb1c1 9 wi 2) ?_
 refine aa _ vb0 ?_
 refine aa _ vb0 ?_
 refine aa _ (vb1c1 12 wi 3) ?_
 apply aa
 case h1 =>
  intro vs L9 w9 vA vy hB K9 vz
  replace vy:=sb vy vA
  have d11:=fe hB 11
  have d13:=fe hB 13
  simp only [d11,d13] at vz ⊢
  have i3:IntKind.i64.wrap (n+va)=n+va:=IntWalk.i64_in _ oM
  simp only [Act.put,sA,gs0,gs1] at vz
  go_simp
  exact vz _ _ rfl (sy vA vy) bR
 refine af [16] (fun v w9=>eW w9 w.heap.size (⟨aj x.t st (-va),aL st pe (n+va) x.o,x.gt,x.sd,x.ms⟩ : Oc) v) ?ss15 (fun vs L9 w9 vA vy hB K9 vz=>?hs15) ?rs15
 case ss15 =>
  intro i9 wD hb9 ha9 v w1 w2 hv vV
  have hb:=vV (fun hm=>by
   simp only [mC,mN,oF] at hm hb9
   subst hm
   ·exact hb9 sP)
  exact hv.below hb
 case hs15 =>
  replace vy:=sb vy vA
  have d8:=fe hB 8
  have d10:=fe hB 10
  have d14:=fe hB 14
  simp only [d8,d10,d14] at vz ⊢
  simp only [Act.put,sA,gs0,gs1] at vz
  have h6:=fs hB 6
  go_simp
  refine (vq st pe (n+va) h6 S1 vX wV).mono ?_
  rintro en w8 ⟨v8,rfl,AF,vB⟩
  exact vz _ _ _ rfl (AF.lower (jT xO vy.size)) (Sw.stay vA kZ dD (vy.trans (vB.mono vy.size))) (fun _=>vB)
 refine aa (undef) (fun vs L9 w9 vA vy hB K9 vz=>?hs16) ?rs16
 case hs16 =>
  replace vy:=vy.here vA
  obtain ⟨TA,tc,OA,oc,e15,h1,h2⟩:=fs hB 15
  simp only [e15] at vz ⊢
  have Lr:=wF.below vy wF.lt
  obtain ⟨z0,z1,z2,z3,z4⟩:=cells5 Lr
  obtain ⟨f0,f1,f2,f3,f4⟩:=frz5 Lr
  have h1:=jZ h1
  have h2:=jZ h2
  clear Lr
  go_simp
  exact vz _ _ rfl (Sw.turn (by rw [yA.out]; exact ⟨w9,TA,tc,OA,oc,vy,h1.out,h2.out,rfl⟩)) nq
 refine aa _ va0 ?_
 refine au fun vs L9 w9 vI vy hB=>?_
 replace vy:=vy.done vI dD
 have dl:=ag.eq (hB 17 _ rfl rfl dD)
 simp only [dl]
 clear hB dl
 rw [yA.out] at vy
 obtain ⟨W8,TA,tc,OA,oc,vB,h1,h2,rfl⟩:=vy
 have Lr:=wF.below vB wF.lt
 have bz:=(b4.trans (vB.mono b4.size)).trans (cg (v0:=F TA ((⟨aj x.t st (-va),aL st pe (n+va) x.o,x.gt,x.sd,x.ms⟩ : Oc)).t.length tc) (v1:=F OA ((⟨aj x.t st (-va),aL st pe (n+va) x.o,x.gt,x.sd,x.ms⟩ : Oc)).o.length oc) (v2:=O U ((⟨aj x.t st (-va),aL st pe (n+va) x.o,x.gt,x.sd,x.ms⟩ : Oc)).gt) (v3:=O U ((⟨aj x.t st (-va),aL st pe (n+va) x.o,x.gt,x.sd,x.ms⟩ : Oc)).sd) (v4:=O U ((⟨aj x.t st (-va),aL st pe (n+va) x.o,x.gt,x.sd,x.ms⟩ : Oc)).ms) Lr (show w.heap.size≤(w.heap.size+1+1) by omega))
 have HT:=jZ (aR (v0:=F TA ((⟨aj x.t st (-va),aL st pe (n+va) x.o,x.gt,x.sd,x.ms⟩ : Oc)).t.length tc) (v1:=F OA ((⟨aj x.t st (-va),aL st pe (n+va) x.o,x.gt,x.sd,x.ms⟩ : Oc)).o.length oc) (v2:=O U ((⟨aj x.t st (-va),aL st pe (n+va) x.o,x.gt,x.sd,x.ms⟩ : Oc)).gt) (v3:=O U ((⟨aj x.t st (-va),aL st pe (n+va) x.o,x.gt,x.sd,x.ms⟩ : Oc)).sd) (v4:=O U ((⟨aj x.t st (-va),aL st pe (n+va) x.o,x.gt,x.sd,x.ms⟩ : Oc)).ms) Lr h1 bX)
 have HO:=jZ (aR (v0:=F TA ((⟨aj x.t st (-va),aL st pe (n+va) x.o,x.gt,x.sd,x.ms⟩ : Oc)).t.length tc) (v1:=F OA ((⟨aj x.t st (-va),aL st pe (n+va) x.o,x.gt,x.sd,x.ms⟩ : Oc)).o.length oc) (v2:=O U ((⟨aj x.t st (-va),aL st pe (n+va) x.o,x.gt,x.sd,x.ms⟩ : Oc)).gt) (v3:=O U ((⟨aj x.t st (-va),aL st pe (n+va) x.o,x.gt,x.sd,x.ms⟩ : Oc)).sd) (v4:=O U ((⟨aj x.t st (-va),aL st pe (n+va) x.o,x.gt,x.sd,x.ms⟩ : Oc)).ms) Lr h2 ce)
 have PR:=ex (v0:=F TA ((⟨aj x.t st (-va),aL st pe (n+va) x.o,x.gt,x.sd,x.ms⟩ : Oc)).t.length tc) (v1:=F OA ((⟨aj x.t st (-va),aL st pe (n+va) x.o,x.gt,x.sd,x.ms⟩ : Oc)).o.length oc) (v2:=O U ((⟨aj x.t st (-va),aL st pe (n+va) x.o,x.gt,x.sd,x.ms⟩ : Oc)).gt) (v3:=O U ((⟨aj x.t st (-va),aL st pe (n+va) x.o,x.gt,x.sd,x.ms⟩ : Oc)).sd) (v4:=O U ((⟨aj x.t st (-va),aL st pe (n+va) x.o,x.gt,x.sd,x.ms⟩ : Oc)).ms) Lr
 generalize dh W8 (w.heap.size+1+1) (F TA ((⟨aj x.t st (-va),aL st pe (n+va) x.o,x.gt,x.sd,x.ms⟩ : Oc)).t.length tc) (F OA ((⟨aj x.t st (-va),aL st pe (n+va) x.o,x.gt,x.sd,x.ms⟩ : Oc)).o.length oc) (O U ((⟨aj x.t st (-va),aL st pe (n+va) x.o,x.gt,x.sd,x.ms⟩ : Oc)).gt) (O U ((⟨aj x.t st (-va),aL st pe (n+va) x.o,x.gt,x.sd,x.ms⟩ : Oc)).sd) (O U ((⟨aj x.t st (-va),aL st pe (n+va) x.o,x.gt,x.sd,x.ms⟩ : Oc)).ms)=W9 at bz HT HO PR ⊢
 obtain ⟨k0,k1,k2,k3,k4⟩:=cells5 PR
 clear h1 h2 Lr vB vI PR
 go_wp2
 refine bodyPost_ret (v:=.tuple #[.agg #[F TA ((⟨aj x.t st (-va),aL st pe (n+va) x.o,x.gt,x.sd,x.ms⟩ : Oc)).t.length tc,F OA ((⟨aj x.t st (-va),aL st pe (n+va) x.o,x.gt,x.sd,x.ms⟩ : Oc)).o.length oc,O U ((⟨aj x.t st (-va),aL st pe (n+va) x.o,x.gt,x.sd,x.ms⟩ : Oc)).gt,O U ((⟨aj x.t st (-va),aL st pe (n+va) x.o,x.gt,x.sd,x.ms⟩ : Oc)).sd,O U ((⟨aj x.t st (-va),aL st pe (n+va) x.o,x.gt,x.sd,x.ms⟩ : Oc)).ms],.bool true]) (by simp [results,Tryz.results175,go_sem, *]) rfl ?_
 exact ⟨TA,tc,OA,oc,rfl,HT.out,HO.out,bz⟩
set_option maxRecDepth 100000 in
theorem qa (x:aO) (st pe va:Int) (w:World) (h:aP w w.heap.size x) (G:bH x) (vM:x.t.length≤x.tc) (vX:1≤st∧st≤99) (wV:1≤pe∧pe≤999) :
  Calls vx 175 #[x.val,.agg #[O U 5,O U st,O U pe,O U va]] w (dp w ((⟨x.t,aL st pe 0 x.o,x.gt,x.sd,x.ms+aN st pe x.o⟩ : Oc),decide (0 < aN st pe x.o))):=by
 have L1:=((ah.new w 40 #[F x.TA x.t.length x.tc,F x.OA x.o.length x.oc,O U x.gt,O U x.sd,O U x.ms]).alloc (.cells #[O U 5,O U st,O U pe,O U va] 112)).alloc (.cells #[F none 0 0,F none 0 0,O U 0,O U 0,O U 0] 40)
 have L2:=(ah.new1 w (.cells #[F x.TA x.t.length x.tc,F x.OA x.o.length x.oc,O U x.gt,O U x.sd,O U x.ms] 40) 112 #[O U 5,O U st,O U pe,O U va]).alloc (.cells #[F none 0 0,F none 0 0,O U 0,O U 0,O U 0] 40)
 have L3:=ah.new2 w (.cells #[F x.TA x.t.length x.tc,F x.OA x.o.length x.oc,O U x.gt,O U x.sd,O U x.ms] 40) (.cells #[O U 5,O U st,O U pe,O U va] 112) 40 #[F none 0 0,F none 0 0,O U 0,O U 0,O U 0]
 have b1:=bZ w (.cells #[F x.TA x.t.length x.tc,F x.OA x.o.length x.oc,O U x.gt,O U x.sd,O U x.ms] 40)
 have b2:=b1.alloc b1.size (.cells #[O U 5,O U st,O U pe,O U va] 112)
 have b3:=b2.alloc b2.size (.cells #[F none 0 0,F none 0 0,O U 0,O U 0,O U 0] 40)
 have Sx:=G.small
 have Cs:=G.tl
 have Ct:=G.ol
 have y6:=G.tcs
 obtain ⟨m1,m2⟩:=G.m
 obtain ⟨g1,g2⟩:=G.s
 obtain ⟨n1,n2⟩:=G.at_bd st pe
 obtain ⟨n,hn⟩ : ∃ n,aN st pe x.o=n:=⟨_,rfl⟩
 rw [hn] at n1 n2 ⊢
 clear b1 b2 G
 go_enter Tryz.func175,Tryz.ntmps175
 go_wp2_with fail
 generalize (((w.alloc (.cells #[F x.TA x.t.length x.tc,F x.OA x.o.length x.oc,O U x.gt,O U x.sd,O U x.ms] 40)).alloc (.cells #[O U 5,O U st,O U pe,O U va] 112)).alloc (.cells #[F none 0 0,F none 0 0,O U 0,O U 0,O U 0] 40))=W at L1 L2 L3 b3 ⊢
 have hR:=h.up b3 nR
 refine (gm x st pe W hR).mono ?_
 rintro e W1 ⟨rfl,vD⟩
 rw [hn]
 have xB:=hR.then vD
 have wq:=L1.below vD L1.lt
 have wi:=L2.below vD L2.lt
 have wF:=L3.below vD L3.lt
 have b4:=b3.trans (vD.mono b3.size)
 have xO:w.heap.size≤W1.heap.size:=b4.size
 have hn:=jZ hn
 clear L1 L2 L3 b3 vD hR h
 obtain ⟨c0,c1,c2,c3,c4⟩:=cells5 wq
 obtain ⟨s0,s1,s2,s3⟩:=cells4 wi
 have i4:IntKind.i64.wrap (x.ms+n)=x.ms+n:=IntWalk.i64_in _ oM
 go_wp2_with fail
 refine (vj x st pe (0) W1 xB Sx vX wV).mono ?_
 rintro e W2 ⟨v2,rfl,⟨TA,tc,OA,oc,wj,hT,hO⟩,vC⟩
 have wj:v2=.agg #[F TA x.t.length tc,F OA (aL st pe (0) x.o).length oc,O U x.gt,O U x.sd,O U x.ms]:=wj
 subst wj
 simp only at hT hO
 have vE:=(Below.refl W2.heap.size W2).alloc nR (.cells #[F TA x.t.length tc,F OA (aL st pe (0) x.o).length oc,O U x.gt,O U x.sd,O U x.ms] 40)
 have xE:=(wq.below vC wq.lt).below vE (jL wq.lt vC.size)
 have xF:=(wi.below vC wi.lt).below vE (jL wi.lt vC.size)
 have xU:=(wF.below vC wF.lt).below vE (jL wF.lt vC.size)
 have P:=ah.new W2 40 #[F TA x.t.length tc,F OA (aL st pe (0) x.o).length oc,O U x.gt,O U x.sd,O U x.ms]
 have wJ:=ai (ac hT vE) xO
 have wa:=ai (ac hO vE) xO
 have b5:=b4.trans ((av vC vE).mono b4.size)
 have zM:=(xB.then vC).then vE
 have wW:w.heap.size+1+1 < W2.heap.size:=jL wF.lt vC.size
 clear c0 c1 c2 c3 c4 s0 s1 s2 s3
 obtain ⟨W3,wE⟩ : ∃ W3,W2.alloc (.cells #[F TA x.t.length tc,F OA (aL st pe (0) x.o).length oc,O U x.gt,O U x.sd,O U x.ms] 40)=W3:=⟨_,rfl⟩
 rw [wE] at xE xF xU P wJ wa b5 zM
 generalize wK:W2.heap.size=g2 at P wW
 obtain ⟨c0,c1,c2,c3,c4⟩:=cells5 xE
 obtain ⟨s0,s1,s2,s3⟩:=cells4 xF
 obtain ⟨p0,p1,p2,p3,p4⟩:=cells5 P
 obtain ⟨pf0,pf1,pf2,pf3,pf4⟩:=frz5 P
 have P4:=P.set 4 (O U (x.ms+n))
 have xj:=xE.other (p:=⟨g2,4,none⟩) (by simp; omega) (O U (x.ms+n))
 have xK:=xF.other (p:=⟨g2,4,none⟩) (by simp; omega) (O U (x.ms+n))
 have xp:=xU.other (p:=⟨g2,4,none⟩) (by simp; omega) (O U (x.ms+n))
 have wh:=am wJ P bX 4 (O U (x.ms+n))
 have vZ:=am wa P ce 4 (O U (x.ms+n))
 have b6:=b5.setCell (p:=⟨g2,4,none⟩) (show w.heap.size≤g2 by omega) (O U (x.ms+n))
 simp only [List.set_cons_zero,List.set_cons_succ] at P4
 obtain ⟨W4,wP⟩ : ∃ W4,W3.setCell ⟨g2,4,none⟩ (O U (x.ms+n))=W4:=⟨_,rfl⟩
 rw [wP] at P4 xj xK xp wh vZ b6
 clear zM vC vE hT hO wq wi wF b4 xB
 obtain ⟨k0,k1,k2,k3,k4⟩:=cells5 P4
 obtain ⟨z0,z1,z2,z3,z4⟩:=cells5 xp
 obtain ⟨f0,f1,f2,f3,f4⟩:=frz5 xp
 have bz:=b6.trans (cg (v0:=F TA x.t.length tc) (v1:=F OA (aL st pe (0) x.o).length oc) (v2:=O U x.gt) (v3:=O U x.sd) (v4:=O U (x.ms+n)) xp (show w.heap.size≤w.heap.size+1+1 by omega))
 have HT:=jZ (aR (v0:=F TA x.t.length tc) (v1:=F OA (aL st pe (0) x.o).length oc) (v2:=O U x.gt) (v3:=O U x.sd) (v4:=O U (x.ms+n)) xp wh bX)
 have HO:=jZ (aR (v0:=F TA x.t.length tc) (v1:=F OA (aL st pe (0) x.o).length oc) (v2:=O U x.gt) (v3:=O U x.sd) (v4:=O U (x.ms+n)) xp vZ ce)
 go_wp2_with (first | (rw [wE]; clear wE; rw [wK]) | (rw [wP]; clear wP))
 clear c0 c1 c2 c3 c4 s0 s1 s2 s3 p0 p1 p2 p3 p4 pf0 pf1 pf2 pf3 pf4
 refine bodyPost_ret (v:=.tuple #[.agg #[F TA x.t.length tc,F OA (aL st pe (0) x.o).length oc,O U x.gt,O U x.sd,O U (x.ms+n)],.bool (decide (0 < n))]) (by simp [results,Tryz.results175,go_sem, *]) rfl ?_
 exact ⟨TA,tc,OA,oc,rfl,HT.out,HO.out,bz⟩
set_option maxRecDepth 100000 in
theorem qe (x:aO) (st pe va:Int) (vX:1≤st∧st≤99) (yo:1≤va∧va≤9999) (w:World) (h:aP w w.heap.size x) (G:bH x) (vM:x.t.length≤x.tc) :
  Calls vx 127 #[x.val,.agg #[O U 1,O U st,O U pe,O U va]] w (dp w ((⟨aj x.t st va,x.o,x.gt+va,x.sd,x.ms⟩ : Oc),((⟨aj x.t st va,x.o,x.gt+va,x.sd,x.ms⟩ : Oc)).good)):=by
 have L1:=((ah.new w 40 #[F x.TA x.t.length x.tc,F x.OA x.o.length x.oc,O U x.gt,O U x.sd,O U x.ms]).alloc (.cells #[O U 1,O U st,O U pe,O U va] 112)).alloc (.cells #[F none 0 0,F none 0 0,O U 0,O U 0,O U 0] 40)
 have L2:=(ah.new1 w (.cells #[F x.TA x.t.length x.tc,F x.OA x.o.length x.oc,O U x.gt,O U x.sd,O U x.ms] 40) 112 #[O U 1,O U st,O U pe,O U va]).alloc (.cells #[F none 0 0,F none 0 0,O U 0,O U 0,O U 0] 40)
 have L3:=ah.new2 w (.cells #[F x.TA x.t.length x.tc,F x.OA x.o.length x.oc,O U x.gt,O U x.sd,O U x.ms] 40) (.cells #[O U 1,O U st,O U pe,O U va] 112) 40 #[F none 0 0,F none 0 0,O U 0,O U 0,O U 0]
 have b1:=bZ w (.cells #[F x.TA x.t.length x.tc,F x.OA x.o.length x.oc,O U x.gt,O U x.sd,O U x.ms] 40)
 have b2:=b1.alloc b1.size (.cells #[O U 1,O U st,O U pe,O U va] 112)
 have b3:=b2.alloc b2.size (.cells #[F none 0 0,F none 0 0,O U 0,O U 0,O U 0] 40)
 have Sx:=G.small
 have Cs:=G.tl
 have Ct:=G.ol
 have y6:=G.tcs
 obtain ⟨m1,m2⟩:=G.m
 obtain ⟨g1,g2⟩:=G.s
 obtain ⟨o1,o2⟩:=G.g
 clear b1 b2 G
 obtain ⟨v1,v2⟩:=yo
 obtain ⟨gd,xX⟩ : ∃ gd,((⟨aj x.t st va,x.o,x.gt+va,x.sd,x.ms⟩ : Oc)).good=gd:=⟨_,rfl⟩
 rw [xX]
 have HG:=jZ xX; clear xX
 have i4:IntKind.i64.wrap (x.gt+va)=x.gt+va:=IntWalk.i64_in _ oM
 go_enter Tryz.func127,Tryz.ntmps127
 go_wp2_with fail
 generalize (((w.alloc (.cells #[F x.TA x.t.length x.tc,F x.OA x.o.length x.oc,O U x.gt,O U x.sd,O U x.ms] 40)).alloc (.cells #[O U 1,O U st,O U pe,O U va] 112)).alloc (.cells #[F none 0 0,F none 0 0,O U 0,O U 0,O U 0] 40))=W at L1 L2 L3 b3 ⊢
 have hR:=h.up b3 nR
 have xB:=hR
 have wq:=L1
 have wi:=L2
 have wF:=L3
 have b4:=b3
 have xO:w.heap.size≤W.heap.size:=b4.size
 clear L1 L2 L3 b3 hR h
 refine (vi x st va W xB Sx oM vM).mono ?_
 rintro e W2 ⟨v2,rfl,⟨TA,tc,OA,oc,wj,hT,hO⟩,vC⟩
 have wj:v2=.agg #[F TA (aj x.t st va).length tc,F OA x.o.length oc,O U x.gt,O U x.sd,O U x.ms]:=wj
 subst wj
 simp only at hT hO
 have vE:=(Below.refl W2.heap.size W2).alloc nR (.cells #[F TA (aj x.t st va).length tc,F OA x.o.length oc,O U x.gt,O U x.sd,O U x.ms] 40)
 have xE:=(wq.below vC wq.lt).below vE (jL wq.lt vC.size)
 have xF:=(wi.below vC wi.lt).below vE (jL wi.lt vC.size)
 have xU:=(wF.below vC wF.lt).below vE (jL wF.lt vC.size)
 have P:=ah.new W2 40 #[F TA (aj x.t st va).length tc,F OA x.o.length oc,O U x.gt,O U x.sd,O U x.ms]
 have wJ:=ai (ac hT vE) xO
 have wa:=ai (ac hO vE) xO
 have b5:=b4.trans ((av vC vE).mono b4.size)
 have wW:w.heap.size+1+1 < W2.heap.size:=jL wF.lt vC.size
 obtain ⟨W3,wE⟩ : ∃ W3,W2.alloc (.cells #[F TA (aj x.t st va).length tc,F OA x.o.length oc,O U x.gt,O U x.sd,O U x.ms] 40)=W3:=⟨_,rfl⟩
 rw [wE] at xE xF xU P wJ wa b5
 generalize wK:W2.heap.size=g2 at P wW
 obtain ⟨c0,c1,c2,c3,c4⟩:=cells5 xE
 obtain ⟨s0,s1,s2,s3⟩:=cells4 xF
 obtain ⟨p0,p1,p2,p3,p4⟩:=cells5 P
 obtain ⟨pf0,pf1,pf2,pf3,pf4⟩:=frz5 P
 have P4:=P.set 2 (O U (x.gt+va))
 have xj:=xE.other (p:=⟨g2,2,none⟩) (by simp; omega) (O U (x.gt+va))
 have xK:=xF.other (p:=⟨g2,2,none⟩) (by simp; omega) (O U (x.gt+va))
 have xp:=xU.other (p:=⟨g2,2,none⟩) (by simp; omega) (O U (x.gt+va))
 have wh:=am wJ P bX 2 (O U (x.gt+va))
 have vZ:=am wa P ce 2 (O U (x.gt+va))
 have b6:=b5.setCell (p:=⟨g2,2,none⟩) (show w.heap.size≤g2 by omega) (O U (x.gt+va))
 simp only [List.set_cons_zero,List.set_cons_succ] at P4
 obtain ⟨W4,wP⟩ : ∃ W4,W3.setCell ⟨g2,2,none⟩ (O U (x.gt+va))=W4:=⟨_,rfl⟩
 rw [wP] at P4 xj xK xp wh vZ b6
 clear vC vE hT hO wq wi wF b4 xB
 go_wp2_with (first | (rw [wE]; clear wE; rw [wK]) | (rw [wP]; clear wP))
 clear c0 c1 c2 c3 c4 s0 s1 s2 s3 p0 p1 p2 p3 p4 pf0 pf1 pf2 pf3 pf4
 obtain ⟨D1,xP⟩ : ∃ D:World→Prop,D=(fun W9=>∃ W8 TA tc OA oc,Below W4.heap.size W4 W8∧W8.ownsRow w.heap.size 104 2 (F TA ((⟨aj x.t st va,x.o,x.gt+va,x.sd,x.ms⟩ : Oc)).t.length tc) ((⟨aj x.t st va,x.o,x.gt+va,x.sd,x.ms⟩ : Oc)).t.length (((⟨aj x.t st va,x.o,x.gt+va,x.sd,x.ms⟩ : Oc)).t.flatMap aq.enc)∧W8.ownsRow w.heap.size 147 3 (F OA ((⟨aj x.t st va,x.o,x.gt+va,x.sd,x.ms⟩ : Oc)).o.length oc) ((⟨aj x.t st va,x.o,x.gt+va,x.sd,x.ms⟩ : Oc)).o.length (((⟨aj x.t st va,x.o,x.gt+va,x.sd,x.ms⟩ : Oc)).o.flatMap ae.enc)∧W9=dh W8 (w.heap.size+1+1) (F TA ((⟨aj x.t st va,x.o,x.gt+va,x.sd,x.ms⟩ : Oc)).t.length tc) (F OA ((⟨aj x.t st va,x.o,x.gt+va,x.sd,x.ms⟩ : Oc)).o.length oc) (O U ((⟨aj x.t st va,x.o,x.gt+va,x.sd,x.ms⟩ : Oc)).gt) (O U ((⟨aj x.t st va,x.o,x.gt+va,x.sd,x.ms⟩ : Oc)).sd) (O U ((⟨aj x.t st va,x.o,x.gt+va,x.sd,x.ms⟩ : Oc)).ms)):=⟨_,rfl⟩
 have Bv:∀ W,D1 W→∃ W8 v0 v1 v2 v3 v4,Below W4.heap.size W4 W8∧W=dh W8 (w.heap.size+1+1) v0 v1 v2 v3 v4:=by
  rw [xP]
  rintro _ ⟨W8,TA,tc,OA,oc,hq,_,_,e⟩
  exact ⟨W8,_,_,_,_,_,hq,e⟩
 have yA:=jZ xP; clear xP
 refine al (Sw 3 (fun W9=>Below W4.heap.size W4 W9) D1) (fun i w1 w2=>i ∉ [3]→Below w1.heap.size w1 w2) kZ kZ kZ (Sw.start jB.drew) ?_
 simp only [aw,Act.put,sA,gs0,gs1,Nat.zero_add,Nat.reduceAdd]
 refine aa _ (vb0C5 P4) ?_
 refine aa _ (vb0C5 P4) ?_
 apply aa
 case h1 =>
  intro vs L9 w9 vA vy hB K9 vz
  replace vy:=sb vy vA
  have d1:=fe hB 1
  simp only [d1] at vz ⊢
  simp only [Act.put,sA,gs0,gs1] at vz
  go_simp
  refine (show Calls _ _ _ _ (fun e w'=>e=.returned (.bool gd)∧Below w9.heap.size w9 w') from by rw [← HG.out]; exact tT (show eW w9 w.heap.size (⟨aj x.t st va,x.o,x.gt+va,x.sd,x.ms⟩ : Oc) _ from ⟨TA,tc,OA,oc,rfl,ac wh vy,ac vZ vy⟩)).mono ?_
  rintro en w8 ⟨rfl,vB⟩
  exact vz _ _ rfl (Sw.stay vA kZ dD (vy.trans (vB.mono vy.size))) (fun _=>vB)
 refine aa (undef) (fun vs L9 w9 vA vy hB K9 vz=>?hg3) ?rg3
 case hg3 =>
  replace vy:=vy.here vA
  have d0:=fe hB 0
  simp only [d0] at vz ⊢
  have Lr:=xp.below vy xp.lt
  obtain ⟨z0,z1,z2,z3,z4⟩:=cells5 Lr
  obtain ⟨f0,f1,f2,f3,f4⟩:=frz5 Lr
  clear Lr
  go_simp
  exact vz _ _ rfl (Sw.turn (by rw [yA.out]; exact ⟨w9,TA,tc,OA,oc,vy,ac wh vy,ac vZ vy,rfl⟩)) nq
 refine aa _ (va1 2) ?_
 refine au fun vs L9 w9 vI vy hB=>?_
 replace vy:=vy.done vI dD
 have dl:=ag.eq (hB 4 _ rfl rfl dD)
 simp only [dl]
 clear hB dl
 rw [yA.out] at vy
 obtain ⟨W8,TA,tc,OA,oc,vB,h1,h2,rfl⟩:=vy
 have Lr:=xp.below vB xp.lt
 have bz:=(b6.trans (vB.mono b6.size)).trans (cg (v0:=F TA ((⟨aj x.t st va,x.o,x.gt+va,x.sd,x.ms⟩ : Oc)).t.length tc) (v1:=F OA ((⟨aj x.t st va,x.o,x.gt+va,x.sd,x.ms⟩ : Oc)).o.length oc) (v2:=O U ((⟨aj x.t st va,x.o,x.gt+va,x.sd,x.ms⟩ : Oc)).gt) (v3:=O U ((⟨aj x.t st va,x.o,x.gt+va,x.sd,x.ms⟩ : Oc)).sd) (v4:=O U ((⟨aj x.t st va,x.o,x.gt+va,x.sd,x.ms⟩ : Oc)).ms) Lr (show w.heap.size≤(w.heap.size+1+1) by omega))
 have HT:=jZ (aR (v0:=F TA ((⟨aj x.t st va,x.o,x.gt+va,x.sd,x.ms⟩ : Oc)).t.length tc) (v1:=F OA ((⟨aj x.t st va,x.o,x.gt+va,x.sd,x.ms⟩ : Oc)).o.length oc) (v2:=O U ((⟨aj x.t st va,x.o,x.gt+va,x.sd,x.ms⟩ : Oc)).gt) (v3:=O U ((⟨aj x.t st va,x.o,x.gt+va,x.sd,x.ms⟩ : Oc)).sd) (v4:=O U ((⟨aj x.t st va,x.o,x.gt+va,x.sd,x.ms⟩ : Oc)).ms) Lr h1 bX)
 have HO:=jZ (aR (v0:=F TA ((⟨aj x.t st va,x.o,x.gt+va,x.sd,x.ms⟩ : Oc)).t.length tc) (v1:=F OA ((⟨aj x.t st va,x.o,x.gt+va,x.sd,x.ms⟩ : Oc)).o.length oc) (v2:=O U ((⟨aj x.t st va,x.o,x.gt+va,x.sd,x.ms⟩ : Oc)).gt) (v3:=O U ((⟨aj x.t st va,x.o,x.gt+va,x.sd,x.ms⟩ : Oc)).sd) (v4:=O U ((⟨aj x.t st va,x.o,x.gt+va,x.sd,x.ms⟩ : Oc)).ms) Lr h2 ce)
 have PR:=ex (v0:=F TA ((⟨aj x.t st va,x.o,x.gt+va,x.sd,x.ms⟩ : Oc)).t.length tc) (v1:=F OA ((⟨aj x.t st va,x.o,x.gt+va,x.sd,x.ms⟩ : Oc)).o.length oc) (v2:=O U ((⟨aj x.t st va,x.o,x.gt+va,x.sd,x.ms⟩ : Oc)).gt) (v3:=O U ((⟨aj x.t st va,x.o,x.gt+va,x.sd,x.ms⟩ : Oc)).sd) (v4:=O U ((⟨aj x.t st va,x.o,x.gt+va,x.sd,x.ms⟩ : Oc)).ms) Lr
 generalize dh W8 (w.heap.size+1+1) (F TA ((⟨aj x.t st va,x.o,x.gt+va,x.sd,x.ms⟩ : Oc)).t.length tc) (F OA ((⟨aj x.t st va,x.o,x.gt+va,x.sd,x.ms⟩ : Oc)).o.length oc) (O U ((⟨aj x.t st va,x.o,x.gt+va,x.sd,x.ms⟩ : Oc)).gt) (O U ((⟨aj x.t st va,x.o,x.gt+va,x.sd,x.ms⟩ : Oc)).sd) (O U ((⟨aj x.t st va,x.o,x.gt+va,x.sd,x.ms⟩ : Oc)).ms)=W9 at bz HT HO PR ⊢
 obtain ⟨k0,k1,k2,k3,k4⟩:=cells5 PR
 clear h1 h2 Lr vB vI PR
 go_wp2
 refine bodyPost_ret (v:=.tuple #[.agg #[F TA ((⟨aj x.t st va,x.o,x.gt+va,x.sd,x.ms⟩ : Oc)).t.length tc,F OA ((⟨aj x.t st va,x.o,x.gt+va,x.sd,x.ms⟩ : Oc)).o.length oc,O U ((⟨aj x.t st va,x.o,x.gt+va,x.sd,x.ms⟩ : Oc)).gt,O U ((⟨aj x.t st va,x.o,x.gt+va,x.sd,x.ms⟩ : Oc)).sd,O U ((⟨aj x.t st va,x.o,x.gt+va,x.sd,x.ms⟩ : Oc)).ms],.bool gd]) (by simp [results,Tryz.results127,go_sem, *]) rfl ?_
 exact ⟨TA,tc,OA,oc,rfl,HT.out,HO.out,bz⟩
set_option maxRecDepth 100000 in
theorem tZ (x:aO) (kd st pe va:Int) (hk:(kd == 1)=false) (ht:ax x.t st < 0) (w:World) (h:aP w w.heap.size x) (G:bH x) (vM:x.t.length≤x.tc) :
  Calls vx 127 #[x.val,.agg #[O U kd,O U st,O U pe,O U va]] w (dp w (x.c,false)):=by
 have L1:=((ah.new w 40 #[F x.TA x.t.length x.tc,F x.OA x.o.length x.oc,O U x.gt,O U x.sd,O U x.ms]).alloc (.cells #[O U kd,O U st,O U pe,O U va] 112)).alloc (.cells #[F none 0 0,F none 0 0,O U 0,O U 0,O U 0] 40)
 have L2:=(ah.new1 w (.cells #[F x.TA x.t.length x.tc,F x.OA x.o.length x.oc,O U x.gt,O U x.sd,O U x.ms] 40) 112 #[O U kd,O U st,O U pe,O U va]).alloc (.cells #[F none 0 0,F none 0 0,O U 0,O U 0,O U 0] 40)
 have L3:=ah.new2 w (.cells #[F x.TA x.t.length x.tc,F x.OA x.o.length x.oc,O U x.gt,O U x.sd,O U x.ms] 40) (.cells #[O U kd,O U st,O U pe,O U va] 112) 40 #[F none 0 0,F none 0 0,O U 0,O U 0,O U 0]
 have b1:=bZ w (.cells #[F x.TA x.t.length x.tc,F x.OA x.o.length x.oc,O U x.gt,O U x.sd,O U x.ms] 40)
 have b2:=b1.alloc b1.size (.cells #[O U kd,O U st,O U pe,O U va] 112)
 have b3:=b2.alloc b2.size (.cells #[F none 0 0,F none 0 0,O U 0,O U 0,O U 0] 40)
 have Sx:=G.small
 have Cs:=G.tl
 have Ct:=G.ol
 have y6:=G.tcs
 obtain ⟨m1,m2⟩:=G.m
 obtain ⟨g1,g2⟩:=G.s
 obtain ⟨o1,o2⟩:=G.g
 clear b1 b2 G
 have Hk:decide (ax x.t st < 0)=true:=jD ht
 have Bw:=jZ ht; clear ht
 go_enter Tryz.func127,Tryz.ntmps127
 go_wp2_with fail
 generalize (((w.alloc (.cells #[F x.TA x.t.length x.tc,F x.OA x.o.length x.oc,O U x.gt,O U x.sd,O U x.ms] 40)).alloc (.cells #[O U kd,O U st,O U pe,O U va] 112)).alloc (.cells #[F none 0 0,F none 0 0,O U 0,O U 0,O U 0] 40))=W at L1 L2 L3 b3 ⊢
 have hR:=h.up b3 nR
 refine (bK x st W hR).mono ?_
 rintro e W1 ⟨rfl,vD⟩
 have xB:=hR.then vD
 have wq:=L1.below vD L1.lt
 have wi:=L2.below vD L2.lt
 have wF:=L3.below vD L3.lt
 have b4:=b3.trans (vD.mono b3.size)
 have xO:w.heap.size≤W1.heap.size:=b4.size
 clear L1 L2 L3 b3 vD hR h
 obtain ⟨c0,c1,c2,c3,c4⟩:=cells5 wq
 obtain ⟨s0,s1,s2,s3⟩:=cells4 wi
 go_wp2_with fail
 refine (jh x W1 xB oM oM).mono ?_
 rintro e W2 ⟨TA,tc,OA,oc,rfl,hT,hO,vC⟩
 simp only [aO.c] at hT hO
 have xU:=wF.below vC wF.lt
 have b5:=b4.trans (vC.mono b4.size)
 have wh:=ai hT xO
 have vZ:=ai hO xO
 clear c0 c1 c2 c3 c4 s0 s1 s2 s3 wq wi wF b4 hT hO
 obtain ⟨z0,z1,z2,z3,z4⟩:=cells5 xU
 obtain ⟨f0,f1,f2,f3,f4⟩:=frz5 xU
 have bz:=b5.trans (cg (v0:=F TA x.t.length tc) (v1:=F OA x.o.length oc) (v2:=O U x.gt) (v3:=O U x.sd) (v4:=O U x.ms) xU (show w.heap.size≤w.heap.size+1+1 by omega))
 have HT:=jZ (aR (v0:=F TA x.t.length tc) (v1:=F OA x.o.length oc) (v2:=O U x.gt) (v3:=O U x.sd) (v4:=O U x.ms) xU wh bX)
 have HO:=jZ (aR (v0:=F TA x.t.length tc) (v1:=F OA x.o.length oc) (v2:=O U x.gt) (v3:=O U x.sd) (v4:=O U x.ms) xU vZ ce)
 clear wh vZ b5 xB vC
 simp only [aO.c,Oc.at,aO.val]
 go_wp2
 refine bodyPost_ret (v:=.tuple #[.agg #[F TA x.t.length tc,F OA x.o.length oc,O U x.gt,O U x.sd,O U x.ms],.bool false]) (by simp [results,Tryz.results127,go_sem, *]) rfl ?_
 exact ⟨TA,tc,OA,oc,rfl,HT.out,HO.out,bz⟩
set_option maxRecDepth 100000 in
theorem mO (x:aO) (kd st pe va:Int) (r:Oc) (hk:(kd == 1)=false) (wV:1≤pe) (ht:0≤ax x.t st) (w:World) (h:aP w w.heap.size x) (G:bH x) (vM:x.t.length≤x.tc)
  (hP:∀ W,aP W W.heap.size x→Calls vx 175 #[x.val,.agg #[O U kd,O U st,O U pe,O U va]] W (dp W (r,true))) :
  Calls vx 127 #[x.val,.agg #[O U kd,O U st,O U pe,O U va]] w (dp w (r,r.good)):=by
 have L1:=((ah.new w 40 #[F x.TA x.t.length x.tc,F x.OA x.o.length x.oc,O U x.gt,O U x.sd,O U x.ms]).alloc (.cells #[O U kd,O U st,O U pe,O U va] 112)).alloc (.cells #[F none 0 0,F none 0 0,O U 0,O U 0,O U 0] 40)
 have L2:=(ah.new1 w (.cells #[F x.TA x.t.length x.tc,F x.OA x.o.length x.oc,O U x.gt,O U x.sd,O U x.ms] 40) 112 #[O U kd,O U st,O U pe,O U va]).alloc (.cells #[F none 0 0,F none 0 0,O U 0,O U 0,O U 0] 40)
 have L3:=ah.new2 w (.cells #[F x.TA x.t.length x.tc,F x.OA x.o.length x.oc,O U x.gt,O U x.sd,O U x.ms] 40) (.cells #[O U kd,O U st,O U pe,O U va] 112) 40 #[F none 0 0,F none 0 0,O U 0,O U 0,O U 0]
 have b1:=bZ w (.cells #[F x.TA x.t.length x.tc,F x.OA x.o.length x.oc,O U x.gt,O U x.sd,O U x.ms] 40)
 have b2:=b1.alloc b1.size (.cells #[O U kd,O U st,O U pe,O U va] 112)
 have b3:=b2.alloc b2.size (.cells #[F none 0 0,F none 0 0,O U 0,O U 0,O U 0] 40)
 have Sx:=G.small
 have Cs:=G.tl
 have Ct:=G.ol
 have y6:=G.tcs
 obtain ⟨m1,m2⟩:=G.m
 obtain ⟨g1,g2⟩:=G.s
 obtain ⟨o1,o2⟩:=G.g
 clear b1 b2 G
 have Kh:(pe == (0:Int))=false:=by simp; omega
 clear wV
 have Hk:decide (ax x.t st < 0)=false:=jE oM
 have Bw:=jZ ht; clear ht
 obtain ⟨gd,xX⟩ : ∃ gd,(r).good=gd:=⟨_,rfl⟩
 rw [xX]
 have HG:=jZ xX; clear xX
 go_enter Tryz.func127,Tryz.ntmps127
 go_wp2_with fail
 generalize (((w.alloc (.cells #[F x.TA x.t.length x.tc,F x.OA x.o.length x.oc,O U x.gt,O U x.sd,O U x.ms] 40)).alloc (.cells #[O U kd,O U st,O U pe,O U va] 112)).alloc (.cells #[F none 0 0,F none 0 0,O U 0,O U 0,O U 0] 40))=W at L1 L2 L3 b3 ⊢
 have hR:=h.up b3 nR
 refine (bK x st W hR).mono ?_
 rintro e W1 ⟨rfl,vD⟩
 have xB:=hR.then vD
 have wq:=L1.below vD L1.lt
 have wi:=L2.below vD L2.lt
 have wF:=L3.below vD L3.lt
 have b4:=b3.trans (vD.mono b3.size)
 have xO:w.heap.size≤W1.heap.size:=b4.size
 clear L1 L2 L3 b3 vD hR h
 obtain ⟨c0,c1,c2,c3,c4⟩:=cells5 wq
 obtain ⟨s0,s1,s2,s3⟩:=cells4 wi
 go_wp2_with fail
 refine (hP W1 xB).mono ?_
 rintro e W2 ⟨TA,tc,OA,oc,rfl,hT,hO,vC⟩
 simp only at hT hO
 have vE:=(Below.refl W2.heap.size W2).alloc nR (.cells #[F TA r.t.length tc,F OA r.o.length oc,O U r.gt,O U r.sd,O U r.ms] 40)
 have xU:=(wF.below vC wF.lt).below vE (jL wF.lt vC.size)
 have P4:=ah.new W2 40 #[F TA r.t.length tc,F OA r.o.length oc,O U r.gt,O U r.sd,O U r.ms]
 have wh:=ai (ac hT vE) xO
 have vZ:=ai (ac hO vE) xO
 have b6:=b4.trans ((av vC vE).mono b4.size)
 have wW:w.heap.size+1+1 < W2.heap.size:=jL wF.lt vC.size
 clear c0 c1 c2 c3 c4 s0 s1 s2 s3
 have xp:=xU
 clear vC vE hT hO wq wi wF b4 xB xU hP
 obtain ⟨W4,wP⟩ : ∃ W4,W2.alloc (.cells #[F TA r.t.length tc,F OA r.o.length oc,O U r.gt,O U r.sd,O U r.ms] 40)=W4:=⟨_,rfl⟩
 rw [wP] at xp P4 wh vZ b6
 generalize wK:W2.heap.size=g2 at P4 wW
 go_wp2_with (rw [wP]; clear wP; rw [wK])
 obtain ⟨D1,xP⟩ : ∃ D:World→Prop,D=(fun W9=>∃ W8 TA tc OA oc,Below W4.heap.size W4 W8∧W8.ownsRow w.heap.size 104 2 (F TA (r).t.length tc) (r).t.length ((r).t.flatMap aq.enc)∧W8.ownsRow w.heap.size 147 3 (F OA (r).o.length oc) (r).o.length ((r).o.flatMap ae.enc)∧W9=dh W8 (w.heap.size+1+1) (F TA (r).t.length tc) (F OA (r).o.length oc) (O U (r).gt) (O U (r).sd) (O U (r).ms)):=⟨_,rfl⟩
 have Bv:∀ W,D1 W→∃ W8 v0 v1 v2 v3 v4,Below W4.heap.size W4 W8∧W=dh W8 (w.heap.size+1+1) v0 v1 v2 v3 v4:=by
  rw [xP]
  rintro _ ⟨W8,TA,tc,OA,oc,hq,_,_,e⟩
  exact ⟨W8,_,_,_,_,_,hq,e⟩
 have yA:=jZ xP; clear xP
 refine al (Sw 6 (fun W9=>Below W4.heap.size W4 W9) D1) (fun i w1 w2=>i ∉ [6]→Below w1.heap.size w1 w2) kZ kZ kZ (Sw.start jB.drew) ?_
 simp only [aw,Act.put,sA,gs0,gs1,Nat.zero_add,Nat.reduceAdd]
 refine aa _ (vb0C5 P4) ?_
 refine aa _ vb0 ?_
 refine aa _ (vb1 1) ?_
 refine aa _ (vb1C5 2 P4) ?_
 apply aa
 case h1 =>
  intro vs L9 w9 vA vy hB K9 vz
  replace vy:=sb vy vA
  have d3:=fe hB 3
  have d2:=fe hB 2
  simp only [d3,d2] at vz ⊢
  simp only [Act.put,sA,gs0,gs1] at vz
  go_simp
  refine (show Calls _ _ _ _ (fun e w'=>e=.returned (.bool gd)∧Below w9.heap.size w9 w') from by rw [← HG.out]; exact tT (show eW w9 w.heap.size r _ from ⟨TA,tc,OA,oc,rfl,ac wh vy,ac vZ vy⟩)).mono ?_
  rintro en w8 ⟨rfl,vB⟩
  exact vz _ _ rfl (Sw.stay vA kZ dD (vy.trans (vB.mono vy.size))) (fun _=>vB)
 refine aa _ (vo2 2 4) ?_
 refine aa (undef) (fun vs L9 w9 vA vy hB K9 vz=>?hq6) ?rq6
 case hq6 =>
  replace vy:=vy.here vA
  have d0:=fe hB 0
  simp only [d0] at vz ⊢
  have Lr:=xp.below vy xp.lt
  obtain ⟨z0,z1,z2,z3,z4⟩:=cells5 Lr
  obtain ⟨f0,f1,f2,f3,f4⟩:=frz5 Lr
  clear Lr
  go_simp
  exact vz _ _ rfl (Sw.turn (by rw [yA.out]; exact ⟨w9,TA,tc,OA,oc,vy,ac wh vy,ac vZ vy,rfl⟩)) nq
 refine aa _ (va1 5) ?_
 refine au fun vs L9 w9 vI vy hB=>?_
 replace vy:=vy.done vI dD
 have dl:=ag.eq (hB 7 _ rfl rfl dD)
 simp only [dl]
 clear hB dl
 rw [yA.out] at vy
 obtain ⟨W8,TA,tc,OA,oc,vB,h1,h2,rfl⟩:=vy
 have Lr:=xp.below vB xp.lt
 have bz:=(b6.trans (vB.mono b6.size)).trans (cg (v0:=F TA (r).t.length tc) (v1:=F OA (r).o.length oc) (v2:=O U (r).gt) (v3:=O U (r).sd) (v4:=O U (r).ms) Lr (show w.heap.size≤(w.heap.size+1+1) by omega))
 have HT:=jZ (aR (v0:=F TA (r).t.length tc) (v1:=F OA (r).o.length oc) (v2:=O U (r).gt) (v3:=O U (r).sd) (v4:=O U (r).ms) Lr h1 bX)
 have HO:=jZ (aR (v0:=F TA (r).t.length tc) (v1:=F OA (r).o.length oc) (v2:=O U (r).gt) (v3:=O U (r).sd) (v4:=O U (r).ms) Lr h2 ce)
 have PR:=ex (v0:=F TA (r).t.length tc) (v1:=F OA (r).o.length oc) (v2:=O U (r).gt) (v3:=O U (r).sd) (v4:=O U (r).ms) Lr
 generalize dh W8 (w.heap.size+1+1) (F TA (r).t.length tc) (F OA (r).o.length oc) (O U (r).gt) (O U (r).sd) (O U (r).ms)=W9 at bz HT HO PR ⊢
 obtain ⟨k0,k1,k2,k3,k4⟩:=cells5 PR
 clear h1 h2 Lr vB vI PR
 go_wp2
 refine bodyPost_ret (v:=.tuple #[.agg #[F TA (r).t.length tc,F OA (r).o.length oc,O U (r).gt,O U (r).sd,O U (r).ms],.bool gd]) (by simp [results,Tryz.results127,go_sem, *]) rfl ?_
 exact ⟨TA,tc,OA,oc,rfl,HT.out,HO.out,bz⟩
set_option maxRecDepth 100000 in
theorem ni (x:aO) (kd st pe va:Int) (r:Oc) (hk:(kd == 1)=false) (wV:1≤pe) (ht:0≤ax x.t st) (w:World) (h:aP w w.heap.size x) (G:bH x) (vM:x.t.length≤x.tc)
  (hP:∀ W,aP W W.heap.size x→Calls vx 175 #[x.val,.agg #[O U kd,O U st,O U pe,O U va]] W (dp W (r,false))) :
  Calls vx 127 #[x.val,.agg #[O U kd,O U st,O U pe,O U va]] w (dp w (r,false)):=by
 have L1:=((ah.new w 40 #[F x.TA x.t.length x.tc,F x.OA x.o.length x.oc,O U x.gt,O U x.sd,O U x.ms]).alloc (.cells #[O U kd,O U st,O U pe,O U va] 112)).alloc (.cells #[F none 0 0,F none 0 0,O U 0,O U 0,O U 0] 40)
 have L2:=(ah.new1 w (.cells #[F x.TA x.t.length x.tc,F x.OA x.o.length x.oc,O U x.gt,O U x.sd,O U x.ms] 40) 112 #[O U kd,O U st,O U pe,O U va]).alloc (.cells #[F none 0 0,F none 0 0,O U 0,O U 0,O U 0] 40)
 have L3:=ah.new2 w (.cells #[F x.TA x.t.length x.tc,F x.OA x.o.length x.oc,O U x.gt,O U x.sd,O U x.ms] 40) (.cells #[O U kd,O U st,O U pe,O U va] 112) 40 #[F none 0 0,F none 0 0,O U 0,O U 0,O U 0]
 have b1:=bZ w (.cells #[F x.TA x.t.length x.tc,F x.OA x.o.length x.oc,O U x.gt,O U x.sd,O U x.ms] 40)
 have b2:=b1.alloc b1.size (.cells #[O U kd,O U st,O U pe,O U va] 112)
 have b3:=b2.alloc b2.size (.cells #[F none 0 0,F none 0 0,O U 0,O U 0,O U 0] 40)
 have Sx:=G.small
 have Cs:=G.tl
 have Ct:=G.ol
 have y6:=G.tcs
 obtain ⟨m1,m2⟩:=G.m
 obtain ⟨g1,g2⟩:=G.s
 obtain ⟨o1,o2⟩:=G.g
 clear b1 b2 G
 have Kh:(pe == (0:Int))=false:=by simp; omega
 clear wV
 have Hk:decide (ax x.t st < 0)=false:=jE oM
 have Bw:=jZ ht; clear ht
 go_enter Tryz.func127,Tryz.ntmps127
 go_wp2_with fail
 generalize (((w.alloc (.cells #[F x.TA x.t.length x.tc,F x.OA x.o.length x.oc,O U x.gt,O U x.sd,O U x.ms] 40)).alloc (.cells #[O U kd,O U st,O U pe,O U va] 112)).alloc (.cells #[F none 0 0,F none 0 0,O U 0,O U 0,O U 0] 40))=W at L1 L2 L3 b3 ⊢
 have hR:=h.up b3 nR
 refine (bK x st W hR).mono ?_
 rintro e W1 ⟨rfl,vD⟩
 have xB:=hR.then vD
 have wq:=L1.below vD L1.lt
 have wi:=L2.below vD L2.lt
 have wF:=L3.below vD L3.lt
 have b4:=b3.trans (vD.mono b3.size)
 have xO:w.heap.size≤W1.heap.size:=b4.size
 clear L1 L2 L3 b3 vD hR h
 obtain ⟨c0,c1,c2,c3,c4⟩:=cells5 wq
 obtain ⟨s0,s1,s2,s3⟩:=cells4 wi
 go_wp2_with fail
 refine (hP W1 xB).mono ?_
 rintro e W2 ⟨TA,tc,OA,oc,rfl,hT,hO,vC⟩
 simp only at hT hO
 have vE:=(Below.refl W2.heap.size W2).alloc nR (.cells #[F TA r.t.length tc,F OA r.o.length oc,O U r.gt,O U r.sd,O U r.ms] 40)
 have xU:=(wF.below vC wF.lt).below vE (jL wF.lt vC.size)
 have P4:=ah.new W2 40 #[F TA r.t.length tc,F OA r.o.length oc,O U r.gt,O U r.sd,O U r.ms]
 have wh:=ai (ac hT vE) xO
 have vZ:=ai (ac hO vE) xO
 have b6:=b4.trans ((av vC vE).mono b4.size)
 have wW:w.heap.size+1+1 < W2.heap.size:=jL wF.lt vC.size
 clear c0 c1 c2 c3 c4 s0 s1 s2 s3
 have xp:=xU
 clear vC vE hT hO wq wi wF b4 xB xU hP
 obtain ⟨W4,wP⟩ : ∃ W4,W2.alloc (.cells #[F TA r.t.length tc,F OA r.o.length oc,O U r.gt,O U r.sd,O U r.ms] 40)=W4:=⟨_,rfl⟩
 rw [wP] at xp P4 wh vZ b6
 generalize wK:W2.heap.size=g2 at P4 wW
 go_wp2_with (rw [wP]; clear wP; rw [wK])
 obtain ⟨D1,xP⟩ : ∃ D:World→Prop,D=(fun W9=>∃ W8 TA tc OA oc,Below W4.heap.size W4 W8∧W8.ownsRow w.heap.size 104 2 (F TA (r).t.length tc) (r).t.length ((r).t.flatMap aq.enc)∧W8.ownsRow w.heap.size 147 3 (F OA (r).o.length oc) (r).o.length ((r).o.flatMap ae.enc)∧W9=dh W8 (w.heap.size+1+1) (F TA (r).t.length tc) (F OA (r).o.length oc) (O U (r).gt) (O U (r).sd) (O U (r).ms)):=⟨_,rfl⟩
 have Bv:∀ W,D1 W→∃ W8 v0 v1 v2 v3 v4,Below W4.heap.size W4 W8∧W=dh W8 (w.heap.size+1+1) v0 v1 v2 v3 v4:=by
  rw [xP]
  rintro _ ⟨W8,TA,tc,OA,oc,hq,_,_,e⟩
  exact ⟨W8,_,_,_,_,_,hq,e⟩
 have yA:=jZ xP; clear xP
 refine al (Sw 6 (fun W9=>Below W4.heap.size W4 W9) D1) (fun i w1 w2=>i ∉ [6]→Below w1.heap.size w1 w2) kZ kZ kZ (Sw.start jB.drew) ?_
 simp only [aw,Act.put,sA,gs0,gs1,Nat.zero_add,Nat.reduceAdd]
 refine aa _ (vb0C5 P4) ?_
 refine aa _ vb0 ?_
 refine aa _ (vb1 1) ?_
 refine aa (undef) (fun vs L9 w9 vA vy hB K9 vz=>?hq3) ?rq3
 case hq3 =>
  replace vy:=sb vy vA
  have d2:=fe hB 2
  simp only [d2] at vz ⊢
  go_simp
  exact vz _ _ rfl (sy vA vy) bR
 refine aa (undef) (fun vs L9 w9 vA vy hB K9 vz=>?hq4) ?rq4
 case hq4 =>
  replace vy:=sb vy vA
  have d3:=fe hB 3
  have d2:=fe hB 2
  simp only [d3,d2] at vz ⊢
  go_simp
  exact vz _ _ rfl (sy vA vy) bR
 refine aa _ (vo2 2 4) ?_
 refine aa (undef) (fun vs L9 w9 vA vy hB K9 vz=>?hq6) ?rq6
 case hq6 =>
  replace vy:=vy.here vA
  have d0:=fe hB 0
  simp only [d0] at vz ⊢
  have Lr:=xp.below vy xp.lt
  obtain ⟨z0,z1,z2,z3,z4⟩:=cells5 Lr
  obtain ⟨f0,f1,f2,f3,f4⟩:=frz5 Lr
  clear Lr
  go_simp
  exact vz _ _ rfl (Sw.turn (by rw [yA.out]; exact ⟨w9,TA,tc,OA,oc,vy,ac wh vy,ac vZ vy,rfl⟩)) nq
 refine aa _ (va1 5) ?_
 refine au fun vs L9 w9 vI vy hB=>?_
 replace vy:=vy.done vI dD
 have dl:=ag.eq (hB 7 _ rfl rfl dD)
 simp only [dl]
 clear hB dl
 rw [yA.out] at vy
 obtain ⟨W8,TA,tc,OA,oc,vB,h1,h2,rfl⟩:=vy
 have Lr:=xp.below vB xp.lt
 have bz:=(b6.trans (vB.mono b6.size)).trans (cg (v0:=F TA (r).t.length tc) (v1:=F OA (r).o.length oc) (v2:=O U (r).gt) (v3:=O U (r).sd) (v4:=O U (r).ms) Lr (show w.heap.size≤(w.heap.size+1+1) by omega))
 have HT:=jZ (aR (v0:=F TA (r).t.length tc) (v1:=F OA (r).o.length oc) (v2:=O U (r).gt) (v3:=O U (r).sd) (v4:=O U (r).ms) Lr h1 bX)
 have HO:=jZ (aR (v0:=F TA (r).t.length tc) (v1:=F OA (r).o.length oc) (v2:=O U (r).gt) (v3:=O U (r).sd) (v4:=O U (r).ms) Lr h2 ce)
 have PR:=ex (v0:=F TA (r).t.length tc) (v1:=F OA (r).o.length oc) (v2:=O U (r).gt) (v3:=O U (r).sd) (v4:=O U (r).ms) Lr
 generalize dh W8 (w.heap.size+1+1) (F TA (r).t.length tc) (F OA (r).o.length oc) (O U (r).gt) (O U (r).sd) (O U (r).ms)=W9 at bz HT HO PR ⊢
 obtain ⟨k0,k1,k2,k3,k4⟩:=cells5 PR
 clear h1 h2 Lr vB vI PR
 go_wp2
 refine bodyPost_ret (v:=.tuple #[.agg #[F TA (r).t.length tc,F OA (r).o.length oc,O U (r).gt,O U (r).sd,O U (r).ms],.bool false]) (by simp [results,Tryz.results127,go_sem, *]) rfl ?_
 exact ⟨TA,tc,OA,oc,rfl,HT.out,HO.out,bz⟩
end Go.Proofs.YtoeoimhemojdeaaGreatDoor
namespace Go.Proofs.YtoeoimhemojdeaaGreatDoor
def ug (n:Int):Prop:=-999999≤n∧n≤999999
theorem jQ {d:Nat} (h:d < 10):Lib.digitVal (UInt8.ofNat (48+d))=some d:=by
 have:(UInt8.ofNat (48+d)).toNat=48+d:=by simp [UInt8.toNat_ofNat']; omega
 unfold Lib.digitVal
 rw [this,if_pos oM]
 congr 1; omega
theorem my:∀ (l r:List UInt8) (acc m:Nat),Lib.decFrom acc l=some m→Lib.decFrom acc (l++r)=Lib.decFrom m r
 | [],r,acc,m,h=>by simp only [Lib.decFrom,Option.some.injEq] at h; subst h; rfl
 | b :: l,r,acc,m,h=>by
  simp only [List.cons_append,Lib.decFrom] at h ⊢
  cases hb:Lib.digitVal b with
  | none=>rw [hb] at h; cases h
  | some d=>rw [hb] at h; exact my l r _ _ h
theorem iF (n:Nat):Lib.decFrom 0 (Lib.decDigits n)=some n:=by
 induction n using Nat.strongRecOn with
 | _ n ih =>
  rw [Lib.decDigits]
  by_cases h:n < 10
  ·rw [dif_pos h]
   simp only [Lib.decFrom,jQ h]
   congr 1; omega
  ·rw [dif_neg h,my _ _ _ _ (ih (n / 10) oM)]
   simp only [Lib.decFrom,jQ (Nat.mod_lt n (by omega:0 < 10))]
   congr 1; omega
theorem uh (n:Nat):Lib.decDigits n ≠ []:=by
 intro h
 have h1:=Lib.decDigits_length n
 have h2:=Lib.nDigits_pos n
 rw [h] at h1; simp at h1; omega
theorem oO (n:Nat):∀ b ∈ Lib.decDigits n,48≤b.toNat∧b.toNat≤57:=by
 intro b hb
 obtain ⟨k,hk,e⟩:=List.getElem_of_mem hb
 obtain ⟨d,hd⟩:=Lib.digit_of_decFrom _ _ _ (iF n) k b (by rw [List.getElem?_eq_getElem hk,e])
 have:=Lib.digitVal_eq hd
 omega
theorem nD (n:Nat):Lib.decNat (Lib.decDigits n)=some n:=by
 unfold Lib.decNat
 rw [if_neg (by simp [uh])]
 exact iF n
theorem lS (n:Int):Lib.atoi (Lib.itoa n)=some n:=by
 unfold Lib.itoa
 by_cases h:n < 0
 ·rw [if_pos h]
  simp only [Lib.atoi,beq_self_eq_true,if_true,nD,Option.map_some,Option.some.injEq]
  omega
 ·rw [if_neg h]
  obtain ⟨m,rfl⟩:=Int.eq_ofNat_of_zero_le (by omega:0≤n)
  rw [Int.toNat_natCast]
  cases hd:Lib.decDigits m with
  | nil=>exact absurd hd (uh m)
  | cons b r =>
   have hb:=oO m b (by rw [hd]; simp)
   have h1:(b == 45)=false:=by
    rw [beq_eq_false_iff_ne]; intro e; subst e; have:(45:UInt8).toNat=45:=rfl; omega
   have h2:(b == 43)=false:=by
    rw [beq_eq_false_iff_ne]; intro e; subst e; have:(43:UInt8).toNat=43:=rfl; omega
   simp only [Lib.atoi,h1,h2,Bool.false_eq_true,if_false]
   rw [← hd,nD]
   rfl
theorem ui {n m:Int} (h:Lib.itoa n=Lib.itoa m):n=m:=by
 have:=lS n
 rw [h,lS m] at this
 exact (Option.some.inj this).symm
theorem iG {n:Nat} (h:n≤999999):Lib.nDigits n≤6:=by
 by_cases h0:n=0
 ·subst h0; rw [Lib.nDigits_small oM]; omega
 ·have h1:=Lib.nDigits_pos n
  by_cases h2:Lib.nDigits n≤6
  ·exact h2
  ·exfalso
   have key:∀ (k n:Nat),n < 10 ^ (k+1)→Lib.nDigits n≤k+1:=by
    intro k
    induction k with
    | zero=>intro n hn; rw [Lib.nDigits_small (by simpa using hn)]; omega
    | succ k ih =>
     intro n hn
     by_cases hs:n < 10
     ·rw [Lib.nDigits_small hs]; omega
     ·rw [Lib.nDigits_big hs]
      have:=ih (n / 10) (Nat.div_lt_of_lt_mul (by rw [Nat.mul_comm,← Nat.pow_succ]; exact hn))
      omega
   exact h2 (key 5 n oM)
theorem uj {n:Int} (h:ug n):1≤(Lib.itoa n).length∧(Lib.itoa n).length≤7:=by
 unfold Lib.itoa
 obtain ⟨h1,h2⟩:=h
 split
 ·have:=iG (n:=n.natAbs) oM
  rw [List.length_cons,Lib.decDigits_length]; omega
 ·have:=iG (n:=n.toNat) oM
  have h3:=Lib.nDigits_pos n.toNat
  rw [Lib.decDigits_length]; omega
open Classical in
noncomputable def cW (s:List UInt8):Option Int:=if h:∃ n,ug n∧Lib.itoa n=s then some h.choose else none
theorem sW {n:Int} (h:ug n):cW (Lib.itoa n)=some n:=by
 have yC:∃ m,ug m∧Lib.itoa m=Lib.itoa n:=⟨n,h,rfl⟩
 unfold cW
 rw [dif_pos yC]
 exact congrArg some (ui yC.choose_spec.2)
theorem mY {n:Int} {s:List UInt8} (h:ug n) (e:Lib.itoa n=s):cW s=some n:=e ▸ sW h
theorem iH {n:Int} {s:List UInt8} (h:cW s=some n):ug n∧Lib.itoa n=s:=by
 by_cases yC:∃ m,ug m∧Lib.itoa m=s
 ·unfold cW at h
  rw [dif_pos yC] at h
  have:=yC.choose_spec
  rw [Option.some.inj h] at this
  exact this
 ·unfold cW at h
  rw [dif_neg yC] at h; cases h
theorem qw {n:Int} (h:ug n):Lib.atoiAll (Lib.itoa n)=.ok n:=by
 rw [Lib.atoiAll_short _ (by have:=uj h; omega),lS]; rfl
theorem uk {s:List UInt8} {n:Int} (h:ug n) (e:Lib.itoa n=s) :
  (n < 0∧∃ t,s=45 :: t∧1≤t.length∧t.length≤6∧Lib.decFrom 0 t=some n.natAbs) ∨ (0≤n∧s.head? ≠ some 45∧1≤s.length∧s.length≤6∧Lib.decFrom 0 s=some n.natAbs):=by
 obtain ⟨h1,h2⟩:=h
 unfold Lib.itoa at e
 by_cases hn:n < 0
 ·left
  rw [if_pos hn] at e
  have h3:=iG (n:=n.natAbs) oM
  have h4:=Lib.nDigits_pos n.natAbs
  exact ⟨hn,_,e.symm,by rw [Lib.decDigits_length]; omega,by rw [Lib.decDigits_length]; omega,iF _⟩
 ·right
  rw [if_neg hn] at e
  have h3:=iG (n:=n.toNat) oM
  have h4:=Lib.nDigits_pos n.toNat
  have h5:n.natAbs=n.toNat:=oM
  subst e
  refine ⟨oM, ?_,by rw [Lib.decDigits_length]; omega,by rw [Lib.decDigits_length]; omega,by rw [h5]; exact iF _⟩
  intro hh
  have hm:(45:UInt8) ∈ Lib.decDigits n.toNat:=List.mem_of_mem_head? hh
  have:=oO _ _ hm
  have h6:(45:UInt8).toNat=45:=rfl
  omega
end Go.Proofs.YtoeoimhemojdeaaGreatDoor
