/- Lemmas. -/
import Derived.Lib.ItoaNum
import Derived.Lib.ItoaLen
import Derived.Lib.AtoiTie
import Derived.Test.YtoeoimhemojdeaaGreatDoorFs17
import Derived.Test.YtoeoimhemojdeaaGreatDoorFs19

set_option linter.unusedVariables false
set_option linter.unusedSimpArgs false
set_option maxHeartbeats 8000000
open Go.Value renaming int → O, slice → F, string → wG
open Go.IntKind renaming i64 → U
open Go.Proofs.Tryz renaming prog → wH

namespace Go.Proofs.YtoeoimhemojdeaaGreatDoor
open Go.RowKit
def fh (w:World) (B:Nat) (y:Oc) (v:Value):Prop :=
 ∃ TA tc OA oc,v=.agg #[F TA y.t.length tc,F OA y.o.length oc,O U y.gt,O U y.sd,O U y.ms]∧w.ownsRow B 104 2 (F TA y.t.length tc) y.t.length (y.t.flatMap aq.enc) ∧
  w.ownsRow B 147 3 (F OA y.o.length oc) y.o.length (y.o.flatMap ae.enc)
def pT (w:World) (y:Oc) (e:Ending) (w' : World):Prop:=∃ v,e=.returned v∧fh w' w.heap.size y v∧Below w.heap.size w w'
theorem fh.below {w w' : World} {B:Nat} {y:Oc} {v:Value} (h:fh w B y v) (hb:Below w.heap.size w w'):fh w' B y v:=by
 obtain ⟨TA,tc,OA,oc,e,h1,h2⟩:=h
 exact ⟨TA,tc,OA,oc,e,ac h1 hb,ac h2 hb⟩
theorem fh.lower {w:World} {B B' : Nat} {y:Oc} {v:Value} (h:fh w B y v) (hB:B'≤B):fh w B' y v:=by
 obtain ⟨TA,tc,OA,oc,e,h1,h2⟩:=h
 exact ⟨TA,tc,OA,oc,e,ah h1 hB,ah h2 hB⟩
theorem fh.as {w:World} {B:Nat} {y:Oc} {v:Value} (h:fh w B y v):∃ x:aO,v=x.val∧x.c=y∧aQ w w.heap.size x∧x.t.length≤x.tc:=by
 obtain ⟨TA,tc,OA,oc,e,h1,h2⟩:=h
 exact ⟨y.at TA tc OA oc,e,rfl,⟨aw h1,aw h2⟩,iK h1⟩
theorem eu.v {w w' : World} {y:Oc} {e:Ending} (h:eu w y e w'):pT w y e w':=by
 obtain ⟨TA,tc,OA,oc,he,h1,h2,hb⟩:=h
 exact ⟨_,he,⟨TA,tc,OA,oc,rfl,h1,h2⟩,hb⟩
structure kT (y:Oc):Prop where
 tl:y.t.length≤1000000
 ol:y.o.length≤1000000
 tc:∀ t ∈ y.t, -1000000000≤t.c∧t.c≤1000000000
 ok:∀ o ∈ y.o,(1≤o.k∧o.k≤99)∧(1≤o.p∧o.p≤999)
theorem bK.small {x:aO} (G:bK x):kT x.c:=by
 refine ⟨by have:=G.tl; show x.t.length≤_; omega,by have:=G.ol; show x.o.length≤_; omega,fun t ht=>?_,fun o ho=>?_⟩
 ·obtain ⟨j,hj,rfl⟩:=List.getElem_of_mem (show t ∈ x.t from ht)
  have:=(aq.bounds (G.tall j hj)).2
  omega
 ·obtain ⟨j,hj,rfl⟩:=List.getElem_of_mem (show o ∈ x.o from ho)
  have:=ae.bounds (G.oall j hj)
  exact ⟨eC G.tall this.1,this.2.1⟩
theorem bK.tcs {x:aO} (G:bK x):∀ t ∈ x.t,0≤t.c∧t.c≤9999:=fun t ht=>by
 obtain ⟨j,hj,rfl⟩:=List.getElem_of_mem ht
 exact (aq.bounds (G.tall j hj)).2
theorem bK.move_bd {x:aO} (G:bK x) (st pe va:Int):0≤aP st va (aM st pe 0 x.o)∧aP st va (aM st pe 0 x.o)≤9999:=by
 rcases mc (k:=st) (p:=va) (aM st pe 0 x.o) with h | ⟨o,ho,_,hc⟩
 ·omega
 ·obtain ⟨j,hj,e⟩:=List.getElem_of_mem ((ft x.o).subset ho)
  have:=(ae.bounds (G.oall j hj)).2.2
  rw [e] at this; omega
theorem tY {k p c:Int} {l:List ae} (hk:1≤k∧k≤99) (hp:1≤p∧p≤999) (h:∀ o ∈ l,(1≤o.k∧o.k≤99)∧(1≤o.p∧o.p≤999)):∀ o ∈ aM k p c l,(1≤o.k∧o.k≤99)∧(1≤o.p∧o.p≤999):=fun o ho=>by
 rcases pJ l c o ho with h1 | rfl
 ·exact h o h1
 ·exact ⟨hk,hp⟩
theorem tu {k p:Int} : ∀ (l:List ae) (c:Int),(aM k p c l).length≤l.length+1
 | [],c=>by rw [aM]; split <;> simp
 | o :: l,c=>by
  have h0:=tu (k:=k) (p:=p) l c
  have hz:(aM k p 0 l).length≤l.length:=(ft l).length_le
  rw [aM]
  split
  ·split <;> simp <;> omega
  ·split <;> simp <;> omega
theorem mU (ts:List aq) (kd n:Int):(aj ts kd n).length≤ts.length+1:=by
 have:=ky ts kd
 unfold aj; split
 ·simp
 ·simp; omega
theorem kT.at {y:Oc} (h:kT y) {k p c:Int} (hk:1≤k∧k≤99) (hp:1≤p∧p≤999) (hl:y.o.length≤100):kT ⟨y.t,aM k p c y.o,y.gt,y.sd,y.ms⟩ :=
 ⟨h.tl,by have:=tu (k:=k) (p:=p) y.o c; show (aM k p c y.o).length≤_; omega,h.tc,tY hk hp h.ok⟩
theorem kU {ts:List aq} {kd n:Int} (hn : -1000000≤n∧n≤1000000) (h:∀ t ∈ ts, -1000000≤t.c∧t.c≤1000000):∀ t ∈ aj ts kd n, -1000000000≤t.c∧t.c≤1000000000:=by
 intro t ht
 unfold aj at ht
 split at ht
 ·rename_i hx
  rcases List.mem_or_eq_of_mem_set ht with h1 | rfl
  ·have:=h t h1; omega
  ·have hl:=mb hx
   have:ts.getD (ay ts kd).toNat default ∈ ts:=by
    rw [List.getD_eq_getElem?_getD,List.getElem?_eq_getElem hl]; exact List.getElem_mem hl
   have:=h _ this
   simp only; omega
 ·rcases List.mem_append.1 ht with h1 | h1
  ·have:=h t (List.mem_of_mem_take h1); omega
  ·rcases List.mem_cons.1 h1 with rfl | h1
   ·simp only; omega
   ·have:=h t (List.mem_of_mem_drop h1); omega
theorem wo (x:aO) (kd n:Int) (w:World) (h:aQ w w.heap.size x) (S:kT x.c) (hn : -1000000000≤n∧n≤1000000000) (wX:x.t.length≤x.tc) :
  Calls wH 173 #[x.val,O U kd,O U n] w (pT w ⟨aj x.t kd n,x.o,x.gt,x.sd,x.ms⟩):=by
 have hb:∀ i (hi:i < x.t.length), -1000000000≤x.t[i].c∧x.t[i].c≤1000000000:=fun i hi=>S.tc _ (List.getElem_mem hi)
 by_cases hx:0≤ay x.t kd
 ·exact (tU x kd n w h S.tl S.ol hb hn hx).mono fun _ _ h=>h.v
 ·exact (tW x kd n w h S.tl S.ol hb hn hx wX).mono fun _ _ h=>h.v
theorem wq (x:aO) (kd pe c:Int) (w:World) (h:aQ w w.heap.size x) (S:kT x.c) (Gq:1≤kd∧kd≤99) (ya:1≤pe∧pe≤999) :
  Calls wH 202 #[x.val,O U kd,O U pe,O U c] w (pT w ⟨x.t,aM kd pe c x.o,x.gt,x.sd,x.ms⟩) :=
 (tX x kd pe c w h S.tl S.ol Gq ya (fun i hi=>S.ok _ (List.getElem_mem hi))).mono fun _ _ h=>h.v
theorem wD {B:Nat} {y:Oc} {v:Value} {w:World} (kd pe c:Int) (h:fh w B y v) (S:kT y) (Gq:1≤kd∧kd≤99) (ya:1≤pe∧pe≤999) :
  Calls wH 202 #[v,O U kd,O U pe,O U c] w (pT w ⟨y.t,aM kd pe c y.o,y.gt,y.sd,y.ms⟩):=by
 obtain ⟨x,rfl,rfl,hr,_⟩:=h.as
 exact wq x kd pe c w hr S Gq ya
theorem wE {B:Nat} {y:Oc} {v:Value} {w:World} (kd pe:Int) (h:fh w B y v) :
  Calls wH 201 #[v,O U kd,O U pe] w fun e w'=>e=.returned (O U (aP kd pe y.o))∧Below w.heap.size w w':=by
 obtain ⟨x,rfl,rfl,hr,_⟩:=h.as
 exact gB x kd pe w hr
theorem uP {B:Nat} {y:Oc} {v:Value} {w:World} (h:fh w B y v) :
  Calls wH 82 #[v] w fun e w'=>e=.returned (.bool y.good)∧Below w.heap.size w w':=by
 obtain ⟨x,rfl,rfl,hr,_⟩:=h.as
 exact er x w hr
def lH (w:World) (B g:Nat) (y:Oc):Prop:=∃ TA tc OA oc,aE w B g (F TA y.t.length tc) (F OA y.o.length oc) y
theorem lH.then {w w' : World} {B g:Nat} {y:Oc} (h:lH w B g y) (hb:Below w.heap.size w w'):lH w' B g y:=by
 obtain ⟨TA,tc,OA,oc,h⟩:=h; exact ⟨TA,tc,OA,oc,h.then hb⟩
theorem fh.store {w:World} {B g:Nat} {y:Oc} {TA OA:Option Addr} {tc oc:Nat} {a b c d e:Value} (h1:w.ownsRow B 104 2 (F TA y.t.length tc) y.t.length (y.t.flatMap aq.enc)) (h2:w.ownsRow B 147 3 (F OA y.o.length oc) y.o.length (y.o.flatMap ae.enc))
  (hL:ai w g 40 [a,b,c,d,e]) (hB:B≤g):lH (dq w g (F TA y.t.length tc) (F OA y.o.length oc) (O U y.gt) (O U y.sd) (O U y.ms)) B g y :=
 ⟨TA,tc,OA,oc,eD hL,hB,aR hL h1 cd,aR hL h2 ci⟩
theorem dz.of {w w' : World} {R:Oc × Bool} {e:Ending} {TA OA:Option Addr} {tc oc:Nat} (he:e=.returned (.tuple #[.agg #[F TA R.1.t.length tc,F OA R.1.o.length oc,O U R.1.gt,O U R.1.sd,O U R.1.ms],.bool R.2])) {g:Nat}
  (h:aE w' w.heap.size g (F TA R.1.t.length tc) (F OA R.1.o.length oc) R.1) (hb:Below w.heap.size w w'):dz w R e w':=⟨TA,tc,OA,oc,he,h.t,h.o,hb⟩
theorem Sw.lies {s g gr:Nat} {t:TypeId} {cs:List Value} {W1 w:World} {C1:World→Prop} {L:Nat→Bool} (h:Sw s (fun W9=>Below W1.heap.size W1 W9) C1 L w)
  (Ms:∀ W,C1 W→∃ W8 v0 v1 v2 v3 v4,Below W1.heap.size W1 W8∧W=dq W8 gr v0 v1 v2 v3 v4) (hL:ai W1 g t cs) (wT:g ≠ gr):ai w g t cs:=by
 unfold Sw at h
 split at h
 ·obtain ⟨W8,v0,v1,v2,v3,v4,hb,rfl⟩:=Ms _ h
  exact mT (hL.below hb hL.lt) wT
 ·exact hL.below h hL.lt
def uQ (w:World) (y:Oc) (v:Value):Prop:=∃ X:aO,v=X.val∧X.c=y∧aQ w w.heap.size X∧X.t.length≤X.tc
theorem uQ.below {w w' : World} {y:Oc} {v:Value} (h:uQ w y v) (hb:Below w.heap.size w w'):uQ w' y v:=by
 obtain ⟨X,h1,h2,h3,h4⟩:=h; exact ⟨X,h1,h2,h3.then hb,h4⟩
def uR (w:World) (y:Oc) (b:Bool) (e:Ending) (w' : World):Prop:=∃ v,e=.returned (.tuple #[v,.bool b])∧fh w' w.heap.size y v∧Below w.heap.size w w'
theorem aF.r {w w' : World} {D:Option Oc} {e:Ending} (h:aF w D e w'):uR w (cU D) D.isSome e w':=by
 obtain ⟨TA,tc,OA,oc,he,h1,h2,hb⟩:=h
 exact ⟨_,he,⟨TA,tc,OA,oc,rfl,h1,h2⟩,hb⟩
theorem uQ.copy {x:aO} {w:World} {g1 g2:Nat} (h1:ai w g1 104 (x.t.flatMap aq.enc)) (h2:ai w g2 147 (x.o.flatMap ae.enc)) (hn:x.t.length≤1048576) (hm:x.o.length≤1048576):uQ w x.c (x.copy g1 g2).val :=
 ⟨x.copy g1 g2,rfl,rfl,r6 h1 h2 hn hm,Nat.le_refl _⟩
set_option maxRecDepth 100000 in
theorem qM (x:aO) (st pe va:Int) (w:World) (h:aQ w w.heap.size x) (G:bK x) (wX:x.t.length≤x.tc) (xl:1≤st∧st≤99) (ya:1≤pe∧pe≤999) (zx:1≤va∧va≤9999) :
  Calls wH 175 #[x.val,.agg #[O U 2,O U st,O U pe,O U va]] w (dz w ((⟨aj x.t st (-va),aM st pe (aP st pe x.o+va) x.o,x.gt,x.sd,x.ms⟩ : Oc),true)):=by
 have L1:=((ai.new w 40 #[F x.TA x.t.length x.tc,F x.OA x.o.length x.oc,O U x.gt,O U x.sd,O U x.ms]).alloc (.cells #[O U 2,O U st,O U pe,O U va] 112)).alloc (.cells #[F none 0 0,F none 0 0,O U 0,O U 0,O U 0] 40)
 have L2:=(ai.new1 w (.cells #[F x.TA x.t.length x.tc,F x.OA x.o.length x.oc,O U x.gt,O U x.sd,O U x.ms] 40) 112 #[O U 2,O U st,O U pe,O U va]).alloc (.cells #[F none 0 0,F none 0 0,O U 0,O U 0,O U 0] 40)
 have L3:=ai.new2 w (.cells #[F x.TA x.t.length x.tc,F x.OA x.o.length x.oc,O U x.gt,O U x.sd,O U x.ms] 40) (.cells #[O U 2,O U st,O U pe,O U va] 112) 40 #[F none 0 0,F none 0 0,O U 0,O U 0,O U 0]
 have b1:=bZ w (.cells #[F x.TA x.t.length x.tc,F x.OA x.o.length x.oc,O U x.gt,O U x.sd,O U x.ms] 40)
 have b2:=b1.alloc b1.size (.cells #[O U 2,O U st,O U pe,O U va] 112)
 have b3:=b2.alloc b2.size (.cells #[F none 0 0,F none 0 0,O U 0,O U 0,O U 0] 40)
 have Sx:=G.small
 have Cf:=G.tl
 have Cg:=G.ol
 have zw:=G.tcs
 obtain ⟨m1,m2⟩:=G.m
 obtain ⟨g1,g2⟩:=G.s
 obtain ⟨n1,n2⟩:=G.at_bd st pe
 obtain ⟨n,hn⟩ : ∃ n,aP st pe x.o=n:=⟨_,rfl⟩
 rw [hn] at n1 n2 ⊢
 clear b1 b2 G
 go_enter Tryz.func175,Tryz.ntmps175
 go_wp2_with fail
 generalize (((w.alloc (.cells #[F x.TA x.t.length x.tc,F x.OA x.o.length x.oc,O U x.gt,O U x.sd,O U x.ms] 40)).alloc (.cells #[O U 2,O U st,O U pe,O U va] 112)).alloc (.cells #[F none 0 0,F none 0 0,O U 0,O U 0,O U 0] 40))=W at L1 L2 L3 b3 ⊢
 have hR:=h.up b3 nR
 refine (gB x st pe W hR).mono ?_
 rintro e W1 ⟨rfl,wN⟩
 rw [hn]
 have xW:=hR.then wN
 have xA:=L1.below wN L1.lt
 have xv:=L2.below wN L2.lt
 have xI:=L3.below wN L3.lt
 have b4:=b3.trans (wN.mono b3.size)
 have yU:w.heap.size≤W1.heap.size:=b4.size
 have hn:=jZ hn
 clear L1 L2 L3 b3 wN hR h
 obtain ⟨c0,c1,c2,c3,c4⟩:=cells5 xA
 obtain ⟨s0,s1,s2,s3⟩:=cells4 xv
 obtain ⟨v1,v2⟩:=zx
 have S1:kT (⟨aj x.t st (-va),x.o,x.gt,x.sd,x.ms⟩ : Oc):=⟨by have:=mU x.t st (-va); show (aj x.t st (-va)).length≤_; omega,Sx.ol,kU oM (fun t ht=>by have:=zw t ht; omega),Sx.ok⟩
 go_wp2
 obtain ⟨D1,yV⟩ : ∃ D:World→Prop,D=(fun W9=>∃ W8 TA tc OA oc,Below W1.heap.size W1 W8∧W8.ownsRow w.heap.size 104 2 (F TA ((⟨aj x.t st (-va),aM st pe (n+va) x.o,x.gt,x.sd,x.ms⟩ : Oc)).t.length tc) ((⟨aj x.t st (-va),aM st pe (n+va) x.o,x.gt,x.sd,x.ms⟩ : Oc)).t.length (((⟨aj x.t st (-va),aM st pe (n+va) x.o,x.gt,x.sd,x.ms⟩ : Oc)).t.flatMap aq.enc)∧W8.ownsRow w.heap.size 147 3 (F OA ((⟨aj x.t st (-va),aM st pe (n+va) x.o,x.gt,x.sd,x.ms⟩ : Oc)).o.length oc) ((⟨aj x.t st (-va),aM st pe (n+va) x.o,x.gt,x.sd,x.ms⟩ : Oc)).o.length (((⟨aj x.t st (-va),aM st pe (n+va) x.o,x.gt,x.sd,x.ms⟩ : Oc)).o.flatMap ae.enc)∧W9=dq W8 (w.heap.size+1+1) (F TA ((⟨aj x.t st (-va),aM st pe (n+va) x.o,x.gt,x.sd,x.ms⟩ : Oc)).t.length tc) (F OA ((⟨aj x.t st (-va),aM st pe (n+va) x.o,x.gt,x.sd,x.ms⟩ : Oc)).o.length oc) (O U ((⟨aj x.t st (-va),aM st pe (n+va) x.o,x.gt,x.sd,x.ms⟩ : Oc)).gt) (O U ((⟨aj x.t st (-va),aM st pe (n+va) x.o,x.gt,x.sd,x.ms⟩ : Oc)).sd) (O U ((⟨aj x.t st (-va),aM st pe (n+va) x.o,x.gt,x.sd,x.ms⟩ : Oc)).ms)):=⟨_,rfl⟩
 have CV:∀ W,D1 W→∃ W8 v0 v1 v2 v3 v4,Below W1.heap.size W1 W8∧W=dq W8 (w.heap.size+1+1) v0 v1 v2 v3 v4:=by
  rw [yV]
  rintro _ ⟨W8,TA,tc,OA,oc,hq,_,_,e⟩
  exact ⟨W8,_,_,_,_,_,hq,e⟩
 have zJ:=jZ yV; clear yV
 refine al (Sw 16 (fun W9=>Below W1.heap.size W1 W9) D1) (fun i w1 w2=>i ∉ [16]→Below w1.heap.size w1 w2) kZ kZ kZ (Sw.start jB.drew) ?_
 simp only [ax,Act.put,sA,gs0,gs1,Nat.zero_add,Nat.reduceAdd]
 refine aa _ (vb0C5 xA) ?_
 refine aa _ vb0 ?_
 refine aa _ (vb1c1 1 xv 1) ?_
 refine aa _ vb0 ?_
 refine aa _ (vb1c1 3 xv 3) ?_
 apply aa
 case h1 =>
  intro vs L9 w9 wK wI hB K9 wJ
  replace wI:=sb wI wK
  have d4:=fe hB 4
  simp only [d4] at wJ ⊢
  have i3:IntKind.i64.wrap (-va) = -va:=IntWalk.i64_in _ oM
  simp only [Act.put,sA,gs0,gs1] at wJ
  go_simp
  exact wJ _ _ rfl (sy wK wI) bR
 refine af [16] (fun v w9=>fh w9 w.heap.size (⟨aj x.t st (-va),x.o,x.gt,x.sd,x.ms⟩ : Oc) v) ?ss6 (fun vs L9 w9 wK wI hB K9 wJ=>?hs6) ?rs6
 case ss6 =>
  intro i9 xG hb9 ha9 v w1 w2 hv xj
  have hb:=xj (fun hm=>by
   simp only [mC,mN,oF] at hm hb9
   subst hm
   ·exact hb9 sP)
  exact hv.below hb
 case hs6 =>
  replace wI:=sb wI wK
  have d0:=fe hB 0
  have d2:=fe hB 2
  have d5:=fe hB 5
  simp only [d0,d2,d5] at wJ ⊢
  simp only [Act.put,sA,gs0,gs1] at wJ
  go_simp
  refine (wo x st (-va) _ (xW.then wI) Sx oM wX).mono ?_
  rintro en w8 ⟨v8,rfl,Ch,wL⟩
  exact wJ _ _ _ rfl (Ch.lower (jT yU wI.size)) (Sw.stay wK kZ dD (wI.trans (wL.mono wI.size))) (fun _=>wL)
 refine aa _ vb0 ?_
 refine aa _ (vb1c1 7 xv 1) ?_
 refine aa _ vb0 ?_
 refine aa _ (vb1c1 9 xv 2) ?_
 refine aa _ vb0 ?_
 refine aa _ vb0 ?_
 refine aa _ (vb1c1 12 xv 3) ?_
 apply aa
 case h1 =>
  intro vs L9 w9 wK wI hB K9 wJ
  replace wI:=sb wI wK
  have d11:=fe hB 11
  have d13:=fe hB 13
  simp only [d11,d13] at wJ ⊢
  have i3:IntKind.i64.wrap (n+va)=n+va:=IntWalk.i64_in _ oM
  simp only [Act.put,sA,gs0,gs1] at wJ
  go_simp
  exact wJ _ _ rfl (sy wK wI) bR
 refine af [16] (fun v w9=>fh w9 w.heap.size (⟨aj x.t st (-va),aM st pe (n+va) x.o,x.gt,x.sd,x.ms⟩ : Oc) v) ?ss15 (fun vs L9 w9 wK wI hB K9 wJ=>?hs15) ?rs15
 case ss15 =>
  intro i9 xG hb9 ha9 v w1 w2 hv xj
  have hb:=xj (fun hm=>by
   simp only [mC,mN,oF] at hm hb9
   subst hm
   ·exact hb9 sP)
  exact hv.below hb
 case hs15 =>
  replace wI:=sb wI wK
  have d8:=fe hB 8
  have d10:=fe hB 10
  have d14:=fe hB 14
  simp only [d8,d10,d14] at wJ ⊢
  simp only [Act.put,sA,gs0,gs1] at wJ
  have h6:=fs hB 6
  go_simp
  refine (wD st pe (n+va) h6 S1 xl ya).mono ?_
  rintro en w8 ⟨v8,rfl,Ch,wL⟩
  exact wJ _ _ _ rfl (Ch.lower (jT yU wI.size)) (Sw.stay wK kZ dD (wI.trans (wL.mono wI.size))) (fun _=>wL)
 refine aa (undef) (fun vs L9 w9 wK wI hB K9 wJ=>?hs16) ?rs16
 case hs16 =>
  replace wI:=wI.here wK
  obtain ⟨TA,tc,OA,oc,e15,h1,h2⟩:=fs hB 15
  simp only [e15] at wJ ⊢
  have Lr:=xI.below wI xI.lt
  obtain ⟨z0,z1,z2,z3,z4⟩:=cells5 Lr
  obtain ⟨f0,f1,f2,f3,f4⟩:=frz5 Lr
  have h1:=jZ h1
  have h2:=jZ h2
  clear Lr
  go_simp
  exact wJ _ _ rfl (Sw.turn (by rw [zJ.out]; exact ⟨w9,TA,tc,OA,oc,wI,h1.out,h2.out,rfl⟩)) nq
 refine aa _ va0 ?_
 refine ar fun vs L9 w9 wS wI hB=>?_
 replace wI:=wI.done wS dD
 have dl:=ag.eq (hB 17 _ rfl rfl dD)
 simp only [dl]
 clear hB dl
 rw [zJ.out] at wI
 obtain ⟨W8,TA,tc,OA,oc,wL,h1,h2,rfl⟩:=wI
 have Lr:=xI.below wL xI.lt
 have bz:=(b4.trans (wL.mono b4.size)).trans (cj (v0:=F TA ((⟨aj x.t st (-va),aM st pe (n+va) x.o,x.gt,x.sd,x.ms⟩ : Oc)).t.length tc) (v1:=F OA ((⟨aj x.t st (-va),aM st pe (n+va) x.o,x.gt,x.sd,x.ms⟩ : Oc)).o.length oc) (v2:=O U ((⟨aj x.t st (-va),aM st pe (n+va) x.o,x.gt,x.sd,x.ms⟩ : Oc)).gt) (v3:=O U ((⟨aj x.t st (-va),aM st pe (n+va) x.o,x.gt,x.sd,x.ms⟩ : Oc)).sd) (v4:=O U ((⟨aj x.t st (-va),aM st pe (n+va) x.o,x.gt,x.sd,x.ms⟩ : Oc)).ms) Lr (show w.heap.size≤(w.heap.size+1+1) by omega))
 have HT:=jZ (aR (v0:=F TA ((⟨aj x.t st (-va),aM st pe (n+va) x.o,x.gt,x.sd,x.ms⟩ : Oc)).t.length tc) (v1:=F OA ((⟨aj x.t st (-va),aM st pe (n+va) x.o,x.gt,x.sd,x.ms⟩ : Oc)).o.length oc) (v2:=O U ((⟨aj x.t st (-va),aM st pe (n+va) x.o,x.gt,x.sd,x.ms⟩ : Oc)).gt) (v3:=O U ((⟨aj x.t st (-va),aM st pe (n+va) x.o,x.gt,x.sd,x.ms⟩ : Oc)).sd) (v4:=O U ((⟨aj x.t st (-va),aM st pe (n+va) x.o,x.gt,x.sd,x.ms⟩ : Oc)).ms) Lr h1 cd)
 have HO:=jZ (aR (v0:=F TA ((⟨aj x.t st (-va),aM st pe (n+va) x.o,x.gt,x.sd,x.ms⟩ : Oc)).t.length tc) (v1:=F OA ((⟨aj x.t st (-va),aM st pe (n+va) x.o,x.gt,x.sd,x.ms⟩ : Oc)).o.length oc) (v2:=O U ((⟨aj x.t st (-va),aM st pe (n+va) x.o,x.gt,x.sd,x.ms⟩ : Oc)).gt) (v3:=O U ((⟨aj x.t st (-va),aM st pe (n+va) x.o,x.gt,x.sd,x.ms⟩ : Oc)).sd) (v4:=O U ((⟨aj x.t st (-va),aM st pe (n+va) x.o,x.gt,x.sd,x.ms⟩ : Oc)).ms) Lr h2 ci)
 have PR:=eD (v0:=F TA ((⟨aj x.t st (-va),aM st pe (n+va) x.o,x.gt,x.sd,x.ms⟩ : Oc)).t.length tc) (v1:=F OA ((⟨aj x.t st (-va),aM st pe (n+va) x.o,x.gt,x.sd,x.ms⟩ : Oc)).o.length oc) (v2:=O U ((⟨aj x.t st (-va),aM st pe (n+va) x.o,x.gt,x.sd,x.ms⟩ : Oc)).gt) (v3:=O U ((⟨aj x.t st (-va),aM st pe (n+va) x.o,x.gt,x.sd,x.ms⟩ : Oc)).sd) (v4:=O U ((⟨aj x.t st (-va),aM st pe (n+va) x.o,x.gt,x.sd,x.ms⟩ : Oc)).ms) Lr
 generalize dq W8 (w.heap.size+1+1) (F TA ((⟨aj x.t st (-va),aM st pe (n+va) x.o,x.gt,x.sd,x.ms⟩ : Oc)).t.length tc) (F OA ((⟨aj x.t st (-va),aM st pe (n+va) x.o,x.gt,x.sd,x.ms⟩ : Oc)).o.length oc) (O U ((⟨aj x.t st (-va),aM st pe (n+va) x.o,x.gt,x.sd,x.ms⟩ : Oc)).gt) (O U ((⟨aj x.t st (-va),aM st pe (n+va) x.o,x.gt,x.sd,x.ms⟩ : Oc)).sd) (O U ((⟨aj x.t st (-va),aM st pe (n+va) x.o,x.gt,x.sd,x.ms⟩ : Oc)).ms)=W9 at bz HT HO PR ⊢
 obtain ⟨k0,k1,k2,k3,k4⟩:=cells5 PR
 clear h1 h2 Lr wL wS PR
 go_wp2
 refine bodyPost_ret (v:=.tuple #[.agg #[F TA ((⟨aj x.t st (-va),aM st pe (n+va) x.o,x.gt,x.sd,x.ms⟩ : Oc)).t.length tc,F OA ((⟨aj x.t st (-va),aM st pe (n+va) x.o,x.gt,x.sd,x.ms⟩ : Oc)).o.length oc,O U ((⟨aj x.t st (-va),aM st pe (n+va) x.o,x.gt,x.sd,x.ms⟩ : Oc)).gt,O U ((⟨aj x.t st (-va),aM st pe (n+va) x.o,x.gt,x.sd,x.ms⟩ : Oc)).sd,O U ((⟨aj x.t st (-va),aM st pe (n+va) x.o,x.gt,x.sd,x.ms⟩ : Oc)).ms],.bool true]) (by simp [results,Tryz.results175,go_sem, *]) rfl ?_
 exact ⟨TA,tc,OA,oc,rfl,HT.out,HO.out,bz⟩
set_option maxRecDepth 100000 in
theorem qO (x:aO) (st pe va:Int) (w:World) (h:aQ w w.heap.size x) (G:bK x) (wX:x.t.length≤x.tc) (xl:1≤st∧st≤99) (ya:1≤pe∧pe≤999) :
  Calls wH 175 #[x.val,.agg #[O U 5,O U st,O U pe,O U va]] w (dz w ((⟨x.t,aM st pe 0 x.o,x.gt,x.sd,x.ms+aP st pe x.o⟩ : Oc),decide (0 < aP st pe x.o))):=by
 have L1:=((ai.new w 40 #[F x.TA x.t.length x.tc,F x.OA x.o.length x.oc,O U x.gt,O U x.sd,O U x.ms]).alloc (.cells #[O U 5,O U st,O U pe,O U va] 112)).alloc (.cells #[F none 0 0,F none 0 0,O U 0,O U 0,O U 0] 40)
 have L2:=(ai.new1 w (.cells #[F x.TA x.t.length x.tc,F x.OA x.o.length x.oc,O U x.gt,O U x.sd,O U x.ms] 40) 112 #[O U 5,O U st,O U pe,O U va]).alloc (.cells #[F none 0 0,F none 0 0,O U 0,O U 0,O U 0] 40)
 have L3:=ai.new2 w (.cells #[F x.TA x.t.length x.tc,F x.OA x.o.length x.oc,O U x.gt,O U x.sd,O U x.ms] 40) (.cells #[O U 5,O U st,O U pe,O U va] 112) 40 #[F none 0 0,F none 0 0,O U 0,O U 0,O U 0]
 have b1:=bZ w (.cells #[F x.TA x.t.length x.tc,F x.OA x.o.length x.oc,O U x.gt,O U x.sd,O U x.ms] 40)
 have b2:=b1.alloc b1.size (.cells #[O U 5,O U st,O U pe,O U va] 112)
 have b3:=b2.alloc b2.size (.cells #[F none 0 0,F none 0 0,O U 0,O U 0,O U 0] 40)
 have Sx:=G.small
 have Cf:=G.tl
 have Cg:=G.ol
 have zw:=G.tcs
 obtain ⟨m1,m2⟩:=G.m
 obtain ⟨g1,g2⟩:=G.s
 obtain ⟨n1,n2⟩:=G.at_bd st pe
 obtain ⟨n,hn⟩ : ∃ n,aP st pe x.o=n:=⟨_,rfl⟩
 rw [hn] at n1 n2 ⊢
 clear b1 b2 G
 go_enter Tryz.func175,Tryz.ntmps175
 go_wp2_with fail
 generalize (((w.alloc (.cells #[F x.TA x.t.length x.tc,F x.OA x.o.length x.oc,O U x.gt,O U x.sd,O U x.ms] 40)).alloc (.cells #[O U 5,O U st,O U pe,O U va] 112)).alloc (.cells #[F none 0 0,F none 0 0,O U 0,O U 0,O U 0] 40))=W at L1 L2 L3 b3 ⊢
 have hR:=h.up b3 nR
 refine (gB x st pe W hR).mono ?_
 rintro e W1 ⟨rfl,wN⟩
 rw [hn]
 have xW:=hR.then wN
 have xA:=L1.below wN L1.lt
 have xv:=L2.below wN L2.lt
 have xI:=L3.below wN L3.lt
 have b4:=b3.trans (wN.mono b3.size)
 have yU:w.heap.size≤W1.heap.size:=b4.size
 have hn:=jZ hn
 clear L1 L2 L3 b3 wN hR h
 obtain ⟨c0,c1,c2,c3,c4⟩:=cells5 xA
 obtain ⟨s0,s1,s2,s3⟩:=cells4 xv
 have i4:IntKind.i64.wrap (x.ms+n)=x.ms+n:=IntWalk.i64_in _ oM
 go_wp2_with fail
 refine (wq x st pe (0) W1 xW Sx xl ya).mono ?_
 rintro e W2 ⟨v2,rfl,⟨TA,tc,OA,oc,xw,hT,hO⟩,wM⟩
 have xw:v2=.agg #[F TA x.t.length tc,F OA (aM st pe (0) x.o).length oc,O U x.gt,O U x.sd,O U x.ms]:=xw
 subst xw
 simp only at hT hO
 have wO:=(Below.refl W2.heap.size W2).alloc nR (.cells #[F TA x.t.length tc,F OA (aM st pe (0) x.o).length oc,O U x.gt,O U x.sd,O U x.ms] 40)
 have yG:=(xA.below wM xA.lt).below wO (jL xA.lt wM.size)
 have yH:=(xv.below wM xv.lt).below wO (jL xv.lt wM.size)
 have y8:=(xI.below wM xI.lt).below wO (jL xI.lt wM.size)
 have P:=ai.new W2 40 #[F TA x.t.length tc,F OA (aM st pe (0) x.o).length oc,O U x.gt,O U x.sd,O U x.ms]
 have xR:=ah (ac hT wO) yU
 have xp:=ah (ac hO wO) yU
 have b5:=b4.trans ((av wM wO).mono b4.size)
 have Ba:=(xW.then wM).then wO
 have yb:w.heap.size+1+1 < W2.heap.size:=jL xI.lt wM.size
 clear c0 c1 c2 c3 c4 s0 s1 s2 s3
 obtain ⟨W3,xH⟩ : ∃ W3,W2.alloc (.cells #[F TA x.t.length tc,F OA (aM st pe (0) x.o).length oc,O U x.gt,O U x.sd,O U x.ms] 40)=W3:=⟨_,rfl⟩
 rw [xH] at yG yH y8 P xR xp b5 Ba
 generalize xL:W2.heap.size=g2 at P yb
 obtain ⟨c0,c1,c2,c3,c4⟩:=cells5 yG
 obtain ⟨s0,s1,s2,s3⟩:=cells4 yH
 obtain ⟨p0,p1,p2,p3,p4⟩:=cells5 P
 obtain ⟨pf0,pf1,pf2,pf3,pf4⟩:=frz5 P
 have P4:=P.set 4 (O U (x.ms+n))
 have yo:=yG.other (p:=⟨g2,4,none⟩) (by simp; omega) (O U (x.ms+n))
 have yR:=yH.other (p:=⟨g2,4,none⟩) (by simp; omega) (O U (x.ms+n))
 have yv:=y8.other (p:=⟨g2,4,none⟩) (by simp; omega) (O U (x.ms+n))
 have xt:=am xR P cd 4 (O U (x.ms+n))
 have xm:=am xp P ci 4 (O U (x.ms+n))
 have b6:=b5.setCell (p:=⟨g2,4,none⟩) (show w.heap.size≤g2 by omega) (O U (x.ms+n))
 simp only [List.set_cons_zero,List.set_cons_succ] at P4
 obtain ⟨W4,xU⟩ : ∃ W4,W3.setCell ⟨g2,4,none⟩ (O U (x.ms+n))=W4:=⟨_,rfl⟩
 rw [xU] at P4 yo yR yv xt xm b6
 clear Ba wM wO hT hO xA xv xI b4 xW
 obtain ⟨k0,k1,k2,k3,k4⟩:=cells5 P4
 obtain ⟨z0,z1,z2,z3,z4⟩:=cells5 yv
 obtain ⟨f0,f1,f2,f3,f4⟩:=frz5 yv
 have bz:=b6.trans (cj (v0:=F TA x.t.length tc) (v1:=F OA (aM st pe (0) x.o).length oc) (v2:=O U x.gt) (v3:=O U x.sd) (v4:=O U (x.ms+n)) yv (show w.heap.size≤w.heap.size+1+1 by omega))
 have HT:=jZ (aR (v0:=F TA x.t.length tc) (v1:=F OA (aM st pe (0) x.o).length oc) (v2:=O U x.gt) (v3:=O U x.sd) (v4:=O U (x.ms+n)) yv xt cd)
 have HO:=jZ (aR (v0:=F TA x.t.length tc) (v1:=F OA (aM st pe (0) x.o).length oc) (v2:=O U x.gt) (v3:=O U x.sd) (v4:=O U (x.ms+n)) yv xm ci)
 go_wp2_with (first | (rw [xH]; clear xH; rw [xL]) | (rw [xU]; clear xU))
 clear c0 c1 c2 c3 c4 s0 s1 s2 s3 p0 p1 p2 p3 p4 pf0 pf1 pf2 pf3 pf4
 refine bodyPost_ret (v:=.tuple #[.agg #[F TA x.t.length tc,F OA (aM st pe (0) x.o).length oc,O U x.gt,O U x.sd,O U (x.ms+n)],.bool (decide (0 < n))]) (by simp [results,Tryz.results175,go_sem, *]) rfl ?_
 exact ⟨TA,tc,OA,oc,rfl,HT.out,HO.out,bz⟩
set_option maxRecDepth 100000 in
theorem qR (x:aO) (st pe va:Int) (xl:1≤st∧st≤99) (zx:1≤va∧va≤9999) (w:World) (h:aQ w w.heap.size x) (G:bK x) (wX:x.t.length≤x.tc) :
  Calls wH 127 #[x.val,.agg #[O U 1,O U st,O U pe,O U va]] w (dz w ((⟨aj x.t st va,x.o,x.gt+va,x.sd,x.ms⟩ : Oc),((⟨aj x.t st va,x.o,x.gt+va,x.sd,x.ms⟩ : Oc)).good)):=by
 have L1:=((ai.new w 40 #[F x.TA x.t.length x.tc,F x.OA x.o.length x.oc,O U x.gt,O U x.sd,O U x.ms]).alloc (.cells #[O U 1,O U st,O U pe,O U va] 112)).alloc (.cells #[F none 0 0,F none 0 0,O U 0,O U 0,O U 0] 40)
 have L2:=(ai.new1 w (.cells #[F x.TA x.t.length x.tc,F x.OA x.o.length x.oc,O U x.gt,O U x.sd,O U x.ms] 40) 112 #[O U 1,O U st,O U pe,O U va]).alloc (.cells #[F none 0 0,F none 0 0,O U 0,O U 0,O U 0] 40)
 have L3:=ai.new2 w (.cells #[F x.TA x.t.length x.tc,F x.OA x.o.length x.oc,O U x.gt,O U x.sd,O U x.ms] 40) (.cells #[O U 1,O U st,O U pe,O U va] 112) 40 #[F none 0 0,F none 0 0,O U 0,O U 0,O U 0]
 have b1:=bZ w (.cells #[F x.TA x.t.length x.tc,F x.OA x.o.length x.oc,O U x.gt,O U x.sd,O U x.ms] 40)
 have b2:=b1.alloc b1.size (.cells #[O U 1,O U st,O U pe,O U va] 112)
 have b3:=b2.alloc b2.size (.cells #[F none 0 0,F none 0 0,O U 0,O U 0,O U 0] 40)
 have Sx:=G.small
 have Cf:=G.tl
 have Cg:=G.ol
 have zw:=G.tcs
 obtain ⟨m1,m2⟩:=G.m
 obtain ⟨g1,g2⟩:=G.s
 obtain ⟨o1,o2⟩:=G.g
 clear b1 b2 G
 obtain ⟨v1,v2⟩:=zx
 obtain ⟨gd,yF⟩ : ∃ gd,((⟨aj x.t st va,x.o,x.gt+va,x.sd,x.ms⟩ : Oc)).good=gd:=⟨_,rfl⟩
 rw [yF]
 have HG:=jZ yF; clear yF
 have i4:IntKind.i64.wrap (x.gt+va)=x.gt+va:=IntWalk.i64_in _ oM
 go_enter Tryz.func127,Tryz.ntmps127
 go_wp2_with fail
 generalize (((w.alloc (.cells #[F x.TA x.t.length x.tc,F x.OA x.o.length x.oc,O U x.gt,O U x.sd,O U x.ms] 40)).alloc (.cells #[O U 1,O U st,O U pe,O U va] 112)).alloc (.cells #[F none 0 0,F none 0 0,O U 0,O U 0,O U 0] 40))=W at L1 L2 L3 b3 ⊢
 have hR:=h.up b3 nR
 have xW:=hR
 have xA:=L1
 have xv:=L2
 have xI:=L3
 have b4:=b3
 have yU:w.heap.size≤W.heap.size:=b4.size
 clear L1 L2 L3 b3 hR h
 refine (wo x st va W xW Sx oM wX).mono ?_
 rintro e W2 ⟨v2,rfl,⟨TA,tc,OA,oc,xw,hT,hO⟩,wM⟩
 have xw:v2=.agg #[F TA (aj x.t st va).length tc,F OA x.o.length oc,O U x.gt,O U x.sd,O U x.ms]:=xw
 subst xw
 simp only at hT hO
 have wO:=(Below.refl W2.heap.size W2).alloc nR (.cells #[F TA (aj x.t st va).length tc,F OA x.o.length oc,O U x.gt,O U x.sd,O U x.ms] 40)
 have yG:=(xA.below wM xA.lt).below wO (jL xA.lt wM.size)
 have yH:=(xv.below wM xv.lt).below wO (jL xv.lt wM.size)
 have y8:=(xI.below wM xI.lt).below wO (jL xI.lt wM.size)
 have P:=ai.new W2 40 #[F TA (aj x.t st va).length tc,F OA x.o.length oc,O U x.gt,O U x.sd,O U x.ms]
 have xR:=ah (ac hT wO) yU
 have xp:=ah (ac hO wO) yU
 have b5:=b4.trans ((av wM wO).mono b4.size)
 have yb:w.heap.size+1+1 < W2.heap.size:=jL xI.lt wM.size
 obtain ⟨W3,xH⟩ : ∃ W3,W2.alloc (.cells #[F TA (aj x.t st va).length tc,F OA x.o.length oc,O U x.gt,O U x.sd,O U x.ms] 40)=W3:=⟨_,rfl⟩
 rw [xH] at yG yH y8 P xR xp b5
 generalize xL:W2.heap.size=g2 at P yb
 obtain ⟨c0,c1,c2,c3,c4⟩:=cells5 yG
 obtain ⟨s0,s1,s2,s3⟩:=cells4 yH
 obtain ⟨p0,p1,p2,p3,p4⟩:=cells5 P
 obtain ⟨pf0,pf1,pf2,pf3,pf4⟩:=frz5 P
 have P4:=P.set 2 (O U (x.gt+va))
 have yo:=yG.other (p:=⟨g2,2,none⟩) (by simp; omega) (O U (x.gt+va))
 have yR:=yH.other (p:=⟨g2,2,none⟩) (by simp; omega) (O U (x.gt+va))
 have yv:=y8.other (p:=⟨g2,2,none⟩) (by simp; omega) (O U (x.gt+va))
 have xt:=am xR P cd 2 (O U (x.gt+va))
 have xm:=am xp P ci 2 (O U (x.gt+va))
 have b6:=b5.setCell (p:=⟨g2,2,none⟩) (show w.heap.size≤g2 by omega) (O U (x.gt+va))
 simp only [List.set_cons_zero,List.set_cons_succ] at P4
 obtain ⟨W4,xU⟩ : ∃ W4,W3.setCell ⟨g2,2,none⟩ (O U (x.gt+va))=W4:=⟨_,rfl⟩
 rw [xU] at P4 yo yR yv xt xm b6
 clear wM wO hT hO xA xv xI b4 xW
 go_wp2_with (first | (rw [xH]; clear xH; rw [xL]) | (rw [xU]; clear xU))
 clear c0 c1 c2 c3 c4 s0 s1 s2 s3 p0 p1 p2 p3 p4 pf0 pf1 pf2 pf3 pf4
 obtain ⟨D1,yV⟩ : ∃ D:World→Prop,D=(fun W9=>∃ W8 TA tc OA oc,Below W4.heap.size W4 W8∧W8.ownsRow w.heap.size 104 2 (F TA ((⟨aj x.t st va,x.o,x.gt+va,x.sd,x.ms⟩ : Oc)).t.length tc) ((⟨aj x.t st va,x.o,x.gt+va,x.sd,x.ms⟩ : Oc)).t.length (((⟨aj x.t st va,x.o,x.gt+va,x.sd,x.ms⟩ : Oc)).t.flatMap aq.enc)∧W8.ownsRow w.heap.size 147 3 (F OA ((⟨aj x.t st va,x.o,x.gt+va,x.sd,x.ms⟩ : Oc)).o.length oc) ((⟨aj x.t st va,x.o,x.gt+va,x.sd,x.ms⟩ : Oc)).o.length (((⟨aj x.t st va,x.o,x.gt+va,x.sd,x.ms⟩ : Oc)).o.flatMap ae.enc)∧W9=dq W8 (w.heap.size+1+1) (F TA ((⟨aj x.t st va,x.o,x.gt+va,x.sd,x.ms⟩ : Oc)).t.length tc) (F OA ((⟨aj x.t st va,x.o,x.gt+va,x.sd,x.ms⟩ : Oc)).o.length oc) (O U ((⟨aj x.t st va,x.o,x.gt+va,x.sd,x.ms⟩ : Oc)).gt) (O U ((⟨aj x.t st va,x.o,x.gt+va,x.sd,x.ms⟩ : Oc)).sd) (O U ((⟨aj x.t st va,x.o,x.gt+va,x.sd,x.ms⟩ : Oc)).ms)):=⟨_,rfl⟩
 have CV:∀ W,D1 W→∃ W8 v0 v1 v2 v3 v4,Below W4.heap.size W4 W8∧W=dq W8 (w.heap.size+1+1) v0 v1 v2 v3 v4:=by
  rw [yV]
  rintro _ ⟨W8,TA,tc,OA,oc,hq,_,_,e⟩
  exact ⟨W8,_,_,_,_,_,hq,e⟩
 have zJ:=jZ yV; clear yV
 refine al (Sw 3 (fun W9=>Below W4.heap.size W4 W9) D1) (fun i w1 w2=>i ∉ [3]→Below w1.heap.size w1 w2) kZ kZ kZ (Sw.start jB.drew) ?_
 simp only [ax,Act.put,sA,gs0,gs1,Nat.zero_add,Nat.reduceAdd]
 refine aa _ (vb0C5 P4) ?_
 refine aa _ (vb0C5 P4) ?_
 apply aa
 case h1 =>
  intro vs L9 w9 wK wI hB K9 wJ
  replace wI:=sb wI wK
  have d1:=fe hB 1
  simp only [d1] at wJ ⊢
  simp only [Act.put,sA,gs0,gs1] at wJ
  go_simp
  refine (show Calls _ _ _ _ (fun e w'=>e=.returned (.bool gd)∧Below w9.heap.size w9 w') from by rw [← HG.out]; exact uP (show fh w9 w.heap.size (⟨aj x.t st va,x.o,x.gt+va,x.sd,x.ms⟩ : Oc) _ from ⟨TA,tc,OA,oc,rfl,ac xt wI,ac xm wI⟩)).mono ?_
  rintro en w8 ⟨rfl,wL⟩
  exact wJ _ _ rfl (Sw.stay wK kZ dD (wI.trans (wL.mono wI.size))) (fun _=>wL)
 refine aa (undef) (fun vs L9 w9 wK wI hB K9 wJ=>?hg3) ?rg3
 case hg3 =>
  replace wI:=wI.here wK
  have d0:=fe hB 0
  simp only [d0] at wJ ⊢
  have Lr:=yv.below wI yv.lt
  obtain ⟨z0,z1,z2,z3,z4⟩:=cells5 Lr
  obtain ⟨f0,f1,f2,f3,f4⟩:=frz5 Lr
  clear Lr
  go_simp
  exact wJ _ _ rfl (Sw.turn (by rw [zJ.out]; exact ⟨w9,TA,tc,OA,oc,wI,ac xt wI,ac xm wI,rfl⟩)) nq
 refine aa _ (va1 2) ?_
 refine ar fun vs L9 w9 wS wI hB=>?_
 replace wI:=wI.done wS dD
 have dl:=ag.eq (hB 4 _ rfl rfl dD)
 simp only [dl]
 clear hB dl
 rw [zJ.out] at wI
 obtain ⟨W8,TA,tc,OA,oc,wL,h1,h2,rfl⟩:=wI
 have Lr:=yv.below wL yv.lt
 have bz:=(b6.trans (wL.mono b6.size)).trans (cj (v0:=F TA ((⟨aj x.t st va,x.o,x.gt+va,x.sd,x.ms⟩ : Oc)).t.length tc) (v1:=F OA ((⟨aj x.t st va,x.o,x.gt+va,x.sd,x.ms⟩ : Oc)).o.length oc) (v2:=O U ((⟨aj x.t st va,x.o,x.gt+va,x.sd,x.ms⟩ : Oc)).gt) (v3:=O U ((⟨aj x.t st va,x.o,x.gt+va,x.sd,x.ms⟩ : Oc)).sd) (v4:=O U ((⟨aj x.t st va,x.o,x.gt+va,x.sd,x.ms⟩ : Oc)).ms) Lr (show w.heap.size≤(w.heap.size+1+1) by omega))
 have HT:=jZ (aR (v0:=F TA ((⟨aj x.t st va,x.o,x.gt+va,x.sd,x.ms⟩ : Oc)).t.length tc) (v1:=F OA ((⟨aj x.t st va,x.o,x.gt+va,x.sd,x.ms⟩ : Oc)).o.length oc) (v2:=O U ((⟨aj x.t st va,x.o,x.gt+va,x.sd,x.ms⟩ : Oc)).gt) (v3:=O U ((⟨aj x.t st va,x.o,x.gt+va,x.sd,x.ms⟩ : Oc)).sd) (v4:=O U ((⟨aj x.t st va,x.o,x.gt+va,x.sd,x.ms⟩ : Oc)).ms) Lr h1 cd)
 have HO:=jZ (aR (v0:=F TA ((⟨aj x.t st va,x.o,x.gt+va,x.sd,x.ms⟩ : Oc)).t.length tc) (v1:=F OA ((⟨aj x.t st va,x.o,x.gt+va,x.sd,x.ms⟩ : Oc)).o.length oc) (v2:=O U ((⟨aj x.t st va,x.o,x.gt+va,x.sd,x.ms⟩ : Oc)).gt) (v3:=O U ((⟨aj x.t st va,x.o,x.gt+va,x.sd,x.ms⟩ : Oc)).sd) (v4:=O U ((⟨aj x.t st va,x.o,x.gt+va,x.sd,x.ms⟩ : Oc)).ms) Lr h2 ci)
 have PR:=eD (v0:=F TA ((⟨aj x.t st va,x.o,x.gt+va,x.sd,x.ms⟩ : Oc)).t.length tc) (v1:=F OA ((⟨aj x.t st va,x.o,x.gt+va,x.sd,x.ms⟩ : Oc)).o.length oc) (v2:=O U ((⟨aj x.t st va,x.o,x.gt+va,x.sd,x.ms⟩ : Oc)).gt) (v3:=O U ((⟨aj x.t st va,x.o,x.gt+va,x.sd,x.ms⟩ : Oc)).sd) (v4:=O U ((⟨aj x.t st va,x.o,x.gt+va,x.sd,x.ms⟩ : Oc)).ms) Lr
 generalize dq W8 (w.heap.size+1+1) (F TA ((⟨aj x.t st va,x.o,x.gt+va,x.sd,x.ms⟩ : Oc)).t.length tc) (F OA ((⟨aj x.t st va,x.o,x.gt+va,x.sd,x.ms⟩ : Oc)).o.length oc) (O U ((⟨aj x.t st va,x.o,x.gt+va,x.sd,x.ms⟩ : Oc)).gt) (O U ((⟨aj x.t st va,x.o,x.gt+va,x.sd,x.ms⟩ : Oc)).sd) (O U ((⟨aj x.t st va,x.o,x.gt+va,x.sd,x.ms⟩ : Oc)).ms)=W9 at bz HT HO PR ⊢
 obtain ⟨k0,k1,k2,k3,k4⟩:=cells5 PR
 clear h1 h2 Lr wL wS PR
 go_wp2
 refine bodyPost_ret (v:=.tuple #[.agg #[F TA ((⟨aj x.t st va,x.o,x.gt+va,x.sd,x.ms⟩ : Oc)).t.length tc,F OA ((⟨aj x.t st va,x.o,x.gt+va,x.sd,x.ms⟩ : Oc)).o.length oc,O U ((⟨aj x.t st va,x.o,x.gt+va,x.sd,x.ms⟩ : Oc)).gt,O U ((⟨aj x.t st va,x.o,x.gt+va,x.sd,x.ms⟩ : Oc)).sd,O U ((⟨aj x.t st va,x.o,x.gt+va,x.sd,x.ms⟩ : Oc)).ms],.bool gd]) (by simp [results,Tryz.results127,go_sem, *]) rfl ?_
 exact ⟨TA,tc,OA,oc,rfl,HT.out,HO.out,bz⟩
set_option maxRecDepth 100000 in
theorem uV (x:aO) (kd st pe va:Int) (hk:(kd == 1)=false) (ht:ay x.t st < 0) (w:World) (h:aQ w w.heap.size x) (G:bK x) (wX:x.t.length≤x.tc) :
  Calls wH 127 #[x.val,.agg #[O U kd,O U st,O U pe,O U va]] w (dz w (x.c,false)):=by
 have L1:=((ai.new w 40 #[F x.TA x.t.length x.tc,F x.OA x.o.length x.oc,O U x.gt,O U x.sd,O U x.ms]).alloc (.cells #[O U kd,O U st,O U pe,O U va] 112)).alloc (.cells #[F none 0 0,F none 0 0,O U 0,O U 0,O U 0] 40)
 have L2:=(ai.new1 w (.cells #[F x.TA x.t.length x.tc,F x.OA x.o.length x.oc,O U x.gt,O U x.sd,O U x.ms] 40) 112 #[O U kd,O U st,O U pe,O U va]).alloc (.cells #[F none 0 0,F none 0 0,O U 0,O U 0,O U 0] 40)
 have L3:=ai.new2 w (.cells #[F x.TA x.t.length x.tc,F x.OA x.o.length x.oc,O U x.gt,O U x.sd,O U x.ms] 40) (.cells #[O U kd,O U st,O U pe,O U va] 112) 40 #[F none 0 0,F none 0 0,O U 0,O U 0,O U 0]
 have b1:=bZ w (.cells #[F x.TA x.t.length x.tc,F x.OA x.o.length x.oc,O U x.gt,O U x.sd,O U x.ms] 40)
 have b2:=b1.alloc b1.size (.cells #[O U kd,O U st,O U pe,O U va] 112)
 have b3:=b2.alloc b2.size (.cells #[F none 0 0,F none 0 0,O U 0,O U 0,O U 0] 40)
 have Sx:=G.small
 have Cf:=G.tl
 have Cg:=G.ol
 have zw:=G.tcs
 obtain ⟨m1,m2⟩:=G.m
 obtain ⟨g1,g2⟩:=G.s
 obtain ⟨o1,o2⟩:=G.g
 clear b1 b2 G
 have Jq:decide (ay x.t st < 0)=true:=jD ht
 have AG:=jZ ht; clear ht
 go_enter Tryz.func127,Tryz.ntmps127
 go_wp2_with fail
 generalize (((w.alloc (.cells #[F x.TA x.t.length x.tc,F x.OA x.o.length x.oc,O U x.gt,O U x.sd,O U x.ms] 40)).alloc (.cells #[O U kd,O U st,O U pe,O U va] 112)).alloc (.cells #[F none 0 0,F none 0 0,O U 0,O U 0,O U 0] 40))=W at L1 L2 L3 b3 ⊢
 have hR:=h.up b3 nR
 refine (bO x st W hR).mono ?_
 rintro e W1 ⟨rfl,wN⟩
 have xW:=hR.then wN
 have xA:=L1.below wN L1.lt
 have xv:=L2.below wN L2.lt
 have xI:=L3.below wN L3.lt
 have b4:=b3.trans (wN.mono b3.size)
 have yU:w.heap.size≤W1.heap.size:=b4.size
 clear L1 L2 L3 b3 wN hR h
 obtain ⟨c0,c1,c2,c3,c4⟩:=cells5 xA
 obtain ⟨s0,s1,s2,s3⟩:=cells4 xv
 go_wp2_with fail
 refine (jv x W1 xW oM oM).mono ?_
 rintro e W2 ⟨TA,tc,OA,oc,rfl,hT,hO,wM⟩
 simp only [aO.c] at hT hO
 have y8:=xI.below wM xI.lt
 have b5:=b4.trans (wM.mono b4.size)
 have xt:=ah hT yU
 have xm:=ah hO yU
 clear c0 c1 c2 c3 c4 s0 s1 s2 s3 xA xv xI b4 hT hO
 obtain ⟨z0,z1,z2,z3,z4⟩:=cells5 y8
 obtain ⟨f0,f1,f2,f3,f4⟩:=frz5 y8
 have bz:=b5.trans (cj (v0:=F TA x.t.length tc) (v1:=F OA x.o.length oc) (v2:=O U x.gt) (v3:=O U x.sd) (v4:=O U x.ms) y8 (show w.heap.size≤w.heap.size+1+1 by omega))
 have HT:=jZ (aR (v0:=F TA x.t.length tc) (v1:=F OA x.o.length oc) (v2:=O U x.gt) (v3:=O U x.sd) (v4:=O U x.ms) y8 xt cd)
 have HO:=jZ (aR (v0:=F TA x.t.length tc) (v1:=F OA x.o.length oc) (v2:=O U x.gt) (v3:=O U x.sd) (v4:=O U x.ms) y8 xm ci)
 clear xt xm b5 xW wM
 simp only [aO.c,Oc.at,aO.val]
 go_wp2
 refine bodyPost_ret (v:=.tuple #[.agg #[F TA x.t.length tc,F OA x.o.length oc,O U x.gt,O U x.sd,O U x.ms],.bool false]) (by simp [results,Tryz.results127,go_sem, *]) rfl ?_
 exact ⟨TA,tc,OA,oc,rfl,HT.out,HO.out,bz⟩
set_option maxRecDepth 100000 in
theorem ni (x:aO) (kd st pe va:Int) (r:Oc) (hk:(kd == 1)=false) (ya:1≤pe) (ht:0≤ay x.t st) (w:World) (h:aQ w w.heap.size x) (G:bK x) (wX:x.t.length≤x.tc)
  (hP:∀ W,aQ W W.heap.size x→Calls wH 175 #[x.val,.agg #[O U kd,O U st,O U pe,O U va]] W (dz W (r,true))) :
  Calls wH 127 #[x.val,.agg #[O U kd,O U st,O U pe,O U va]] w (dz w (r,r.good)):=by
 have L1:=((ai.new w 40 #[F x.TA x.t.length x.tc,F x.OA x.o.length x.oc,O U x.gt,O U x.sd,O U x.ms]).alloc (.cells #[O U kd,O U st,O U pe,O U va] 112)).alloc (.cells #[F none 0 0,F none 0 0,O U 0,O U 0,O U 0] 40)
 have L2:=(ai.new1 w (.cells #[F x.TA x.t.length x.tc,F x.OA x.o.length x.oc,O U x.gt,O U x.sd,O U x.ms] 40) 112 #[O U kd,O U st,O U pe,O U va]).alloc (.cells #[F none 0 0,F none 0 0,O U 0,O U 0,O U 0] 40)
 have L3:=ai.new2 w (.cells #[F x.TA x.t.length x.tc,F x.OA x.o.length x.oc,O U x.gt,O U x.sd,O U x.ms] 40) (.cells #[O U kd,O U st,O U pe,O U va] 112) 40 #[F none 0 0,F none 0 0,O U 0,O U 0,O U 0]
 have b1:=bZ w (.cells #[F x.TA x.t.length x.tc,F x.OA x.o.length x.oc,O U x.gt,O U x.sd,O U x.ms] 40)
 have b2:=b1.alloc b1.size (.cells #[O U kd,O U st,O U pe,O U va] 112)
 have b3:=b2.alloc b2.size (.cells #[F none 0 0,F none 0 0,O U 0,O U 0,O U 0] 40)
 have Sx:=G.small
 have Cf:=G.tl
 have Cg:=G.ol
 have zw:=G.tcs
 obtain ⟨m1,m2⟩:=G.m
 obtain ⟨g1,g2⟩:=G.s
 obtain ⟨o1,o2⟩:=G.g
 clear b1 b2 G
 have Mw:(pe == (0:Int))=false:=by simp; omega
 clear ya
 have Jq:decide (ay x.t st < 0)=false:=jE oM
 have AG:=jZ ht; clear ht
 obtain ⟨gd,yF⟩ : ∃ gd,(r).good=gd:=⟨_,rfl⟩
 rw [yF]
 have HG:=jZ yF; clear yF
 go_enter Tryz.func127,Tryz.ntmps127
 go_wp2_with fail
 generalize (((w.alloc (.cells #[F x.TA x.t.length x.tc,F x.OA x.o.length x.oc,O U x.gt,O U x.sd,O U x.ms] 40)).alloc (.cells #[O U kd,O U st,O U pe,O U va] 112)).alloc (.cells #[F none 0 0,F none 0 0,O U 0,O U 0,O U 0] 40))=W at L1 L2 L3 b3 ⊢
 have hR:=h.up b3 nR
 refine (bO x st W hR).mono ?_
 rintro e W1 ⟨rfl,wN⟩
 have xW:=hR.then wN
 have xA:=L1.below wN L1.lt
 have xv:=L2.below wN L2.lt
 have xI:=L3.below wN L3.lt
 have b4:=b3.trans (wN.mono b3.size)
 have yU:w.heap.size≤W1.heap.size:=b4.size
 clear L1 L2 L3 b3 wN hR h
 obtain ⟨c0,c1,c2,c3,c4⟩:=cells5 xA
 obtain ⟨s0,s1,s2,s3⟩:=cells4 xv
 go_wp2_with fail
 refine (hP W1 xW).mono ?_
 rintro e W2 ⟨TA,tc,OA,oc,rfl,hT,hO,wM⟩
 simp only at hT hO
 have wO:=(Below.refl W2.heap.size W2).alloc nR (.cells #[F TA r.t.length tc,F OA r.o.length oc,O U r.gt,O U r.sd,O U r.ms] 40)
 have y8:=(xI.below wM xI.lt).below wO (jL xI.lt wM.size)
 have P4:=ai.new W2 40 #[F TA r.t.length tc,F OA r.o.length oc,O U r.gt,O U r.sd,O U r.ms]
 have xt:=ah (ac hT wO) yU
 have xm:=ah (ac hO wO) yU
 have b6:=b4.trans ((av wM wO).mono b4.size)
 have yb:w.heap.size+1+1 < W2.heap.size:=jL xI.lt wM.size
 clear c0 c1 c2 c3 c4 s0 s1 s2 s3
 have yv:=y8
 clear wM wO hT hO xA xv xI b4 xW y8 hP
 obtain ⟨W4,xU⟩ : ∃ W4,W2.alloc (.cells #[F TA r.t.length tc,F OA r.o.length oc,O U r.gt,O U r.sd,O U r.ms] 40)=W4:=⟨_,rfl⟩
 rw [xU] at yv P4 xt xm b6
 generalize xL:W2.heap.size=g2 at P4 yb
 go_wp2_with (rw [xU]; clear xU; rw [xL])
 obtain ⟨D1,yV⟩ : ∃ D:World→Prop,D=(fun W9=>∃ W8 TA tc OA oc,Below W4.heap.size W4 W8∧W8.ownsRow w.heap.size 104 2 (F TA (r).t.length tc) (r).t.length ((r).t.flatMap aq.enc)∧W8.ownsRow w.heap.size 147 3 (F OA (r).o.length oc) (r).o.length ((r).o.flatMap ae.enc)∧W9=dq W8 (w.heap.size+1+1) (F TA (r).t.length tc) (F OA (r).o.length oc) (O U (r).gt) (O U (r).sd) (O U (r).ms)):=⟨_,rfl⟩
 have CV:∀ W,D1 W→∃ W8 v0 v1 v2 v3 v4,Below W4.heap.size W4 W8∧W=dq W8 (w.heap.size+1+1) v0 v1 v2 v3 v4:=by
  rw [yV]
  rintro _ ⟨W8,TA,tc,OA,oc,hq,_,_,e⟩
  exact ⟨W8,_,_,_,_,_,hq,e⟩
 have zJ:=jZ yV; clear yV
 refine al (Sw 6 (fun W9=>Below W4.heap.size W4 W9) D1) (fun i w1 w2=>i ∉ [6]→Below w1.heap.size w1 w2) kZ kZ kZ (Sw.start jB.drew) ?_
 simp only [ax,Act.put,sA,gs0,gs1,Nat.zero_add,Nat.reduceAdd]
 refine aa _ (vb0C5 P4) ?_
 refine aa _ vb0 ?_
 refine aa _ (vb1 1) ?_
 refine aa _ (vb1C5 2 P4) ?_
 apply aa
 case h1 =>
  intro vs L9 w9 wK wI hB K9 wJ
  replace wI:=sb wI wK
  have d3:=fe hB 3
  have d2:=fe hB 2
  simp only [d3,d2] at wJ ⊢
  simp only [Act.put,sA,gs0,gs1] at wJ
  go_simp
  refine (show Calls _ _ _ _ (fun e w'=>e=.returned (.bool gd)∧Below w9.heap.size w9 w') from by rw [← HG.out]; exact uP (show fh w9 w.heap.size r _ from ⟨TA,tc,OA,oc,rfl,ac xt wI,ac xm wI⟩)).mono ?_
  rintro en w8 ⟨rfl,wL⟩
  exact wJ _ _ rfl (Sw.stay wK kZ dD (wI.trans (wL.mono wI.size))) (fun _=>wL)
 refine aa _ (vo2 2 4) ?_
 refine aa (undef) (fun vs L9 w9 wK wI hB K9 wJ=>?hq6) ?rq6
 case hq6 =>
  replace wI:=wI.here wK
  have d0:=fe hB 0
  simp only [d0] at wJ ⊢
  have Lr:=yv.below wI yv.lt
  obtain ⟨z0,z1,z2,z3,z4⟩:=cells5 Lr
  obtain ⟨f0,f1,f2,f3,f4⟩:=frz5 Lr
  clear Lr
  go_simp
  exact wJ _ _ rfl (Sw.turn (by rw [zJ.out]; exact ⟨w9,TA,tc,OA,oc,wI,ac xt wI,ac xm wI,rfl⟩)) nq
 refine aa _ (va1 5) ?_
 refine ar fun vs L9 w9 wS wI hB=>?_
 replace wI:=wI.done wS dD
 have dl:=ag.eq (hB 7 _ rfl rfl dD)
 simp only [dl]
 clear hB dl
 rw [zJ.out] at wI
 obtain ⟨W8,TA,tc,OA,oc,wL,h1,h2,rfl⟩:=wI
 have Lr:=yv.below wL yv.lt
 have bz:=(b6.trans (wL.mono b6.size)).trans (cj (v0:=F TA (r).t.length tc) (v1:=F OA (r).o.length oc) (v2:=O U (r).gt) (v3:=O U (r).sd) (v4:=O U (r).ms) Lr (show w.heap.size≤(w.heap.size+1+1) by omega))
 have HT:=jZ (aR (v0:=F TA (r).t.length tc) (v1:=F OA (r).o.length oc) (v2:=O U (r).gt) (v3:=O U (r).sd) (v4:=O U (r).ms) Lr h1 cd)
 have HO:=jZ (aR (v0:=F TA (r).t.length tc) (v1:=F OA (r).o.length oc) (v2:=O U (r).gt) (v3:=O U (r).sd) (v4:=O U (r).ms) Lr h2 ci)
 have PR:=eD (v0:=F TA (r).t.length tc) (v1:=F OA (r).o.length oc) (v2:=O U (r).gt) (v3:=O U (r).sd) (v4:=O U (r).ms) Lr
 generalize dq W8 (w.heap.size+1+1) (F TA (r).t.length tc) (F OA (r).o.length oc) (O U (r).gt) (O U (r).sd) (O U (r).ms)=W9 at bz HT HO PR ⊢
 obtain ⟨k0,k1,k2,k3,k4⟩:=cells5 PR
 clear h1 h2 Lr wL wS PR
 go_wp2
 refine bodyPost_ret (v:=.tuple #[.agg #[F TA (r).t.length tc,F OA (r).o.length oc,O U (r).gt,O U (r).sd,O U (r).ms],.bool gd]) (by simp [results,Tryz.results127,go_sem, *]) rfl ?_
 exact ⟨TA,tc,OA,oc,rfl,HT.out,HO.out,bz⟩
set_option maxRecDepth 100000 in
theorem nP (x:aO) (kd st pe va:Int) (r:Oc) (hk:(kd == 1)=false) (ya:1≤pe) (ht:0≤ay x.t st) (w:World) (h:aQ w w.heap.size x) (G:bK x) (wX:x.t.length≤x.tc)
  (hP:∀ W,aQ W W.heap.size x→Calls wH 175 #[x.val,.agg #[O U kd,O U st,O U pe,O U va]] W (dz W (r,false))) :
  Calls wH 127 #[x.val,.agg #[O U kd,O U st,O U pe,O U va]] w (dz w (r,false)):=by
 have L1:=((ai.new w 40 #[F x.TA x.t.length x.tc,F x.OA x.o.length x.oc,O U x.gt,O U x.sd,O U x.ms]).alloc (.cells #[O U kd,O U st,O U pe,O U va] 112)).alloc (.cells #[F none 0 0,F none 0 0,O U 0,O U 0,O U 0] 40)
 have L2:=(ai.new1 w (.cells #[F x.TA x.t.length x.tc,F x.OA x.o.length x.oc,O U x.gt,O U x.sd,O U x.ms] 40) 112 #[O U kd,O U st,O U pe,O U va]).alloc (.cells #[F none 0 0,F none 0 0,O U 0,O U 0,O U 0] 40)
 have L3:=ai.new2 w (.cells #[F x.TA x.t.length x.tc,F x.OA x.o.length x.oc,O U x.gt,O U x.sd,O U x.ms] 40) (.cells #[O U kd,O U st,O U pe,O U va] 112) 40 #[F none 0 0,F none 0 0,O U 0,O U 0,O U 0]
 have b1:=bZ w (.cells #[F x.TA x.t.length x.tc,F x.OA x.o.length x.oc,O U x.gt,O U x.sd,O U x.ms] 40)
 have b2:=b1.alloc b1.size (.cells #[O U kd,O U st,O U pe,O U va] 112)
 have b3:=b2.alloc b2.size (.cells #[F none 0 0,F none 0 0,O U 0,O U 0,O U 0] 40)
 have Sx:=G.small
 have Cf:=G.tl
 have Cg:=G.ol
 have zw:=G.tcs
 obtain ⟨m1,m2⟩:=G.m
 obtain ⟨g1,g2⟩:=G.s
 obtain ⟨o1,o2⟩:=G.g
 clear b1 b2 G
 have Mw:(pe == (0:Int))=false:=by simp; omega
 clear ya
 have Jq:decide (ay x.t st < 0)=false:=jE oM
 have AG:=jZ ht; clear ht
 go_enter Tryz.func127,Tryz.ntmps127
 go_wp2_with fail
 generalize (((w.alloc (.cells #[F x.TA x.t.length x.tc,F x.OA x.o.length x.oc,O U x.gt,O U x.sd,O U x.ms] 40)).alloc (.cells #[O U kd,O U st,O U pe,O U va] 112)).alloc (.cells #[F none 0 0,F none 0 0,O U 0,O U 0,O U 0] 40))=W at L1 L2 L3 b3 ⊢
 have hR:=h.up b3 nR
 refine (bO x st W hR).mono ?_
 rintro e W1 ⟨rfl,wN⟩
 have xW:=hR.then wN
 have xA:=L1.below wN L1.lt
 have xv:=L2.below wN L2.lt
 have xI:=L3.below wN L3.lt
 have b4:=b3.trans (wN.mono b3.size)
 have yU:w.heap.size≤W1.heap.size:=b4.size
 clear L1 L2 L3 b3 wN hR h
 obtain ⟨c0,c1,c2,c3,c4⟩:=cells5 xA
 obtain ⟨s0,s1,s2,s3⟩:=cells4 xv
 go_wp2_with fail
 refine (hP W1 xW).mono ?_
 rintro e W2 ⟨TA,tc,OA,oc,rfl,hT,hO,wM⟩
 simp only at hT hO
 have wO:=(Below.refl W2.heap.size W2).alloc nR (.cells #[F TA r.t.length tc,F OA r.o.length oc,O U r.gt,O U r.sd,O U r.ms] 40)
 have y8:=(xI.below wM xI.lt).below wO (jL xI.lt wM.size)
 have P4:=ai.new W2 40 #[F TA r.t.length tc,F OA r.o.length oc,O U r.gt,O U r.sd,O U r.ms]
 have xt:=ah (ac hT wO) yU
 have xm:=ah (ac hO wO) yU
 have b6:=b4.trans ((av wM wO).mono b4.size)
 have yb:w.heap.size+1+1 < W2.heap.size:=jL xI.lt wM.size
 clear c0 c1 c2 c3 c4 s0 s1 s2 s3
 have yv:=y8
 clear wM wO hT hO xA xv xI b4 xW y8 hP
 obtain ⟨W4,xU⟩ : ∃ W4,W2.alloc (.cells #[F TA r.t.length tc,F OA r.o.length oc,O U r.gt,O U r.sd,O U r.ms] 40)=W4:=⟨_,rfl⟩
 rw [xU] at yv P4 xt xm b6
 generalize xL:W2.heap.size=g2 at P4 yb
 go_wp2_with (rw [xU]; clear xU; rw [xL])
 obtain ⟨D1,yV⟩ : ∃ D:World→Prop,D=(fun W9=>∃ W8 TA tc OA oc,Below W4.heap.size W4 W8∧W8.ownsRow w.heap.size 104 2 (F TA (r).t.length tc) (r).t.length ((r).t.flatMap aq.enc)∧W8.ownsRow w.heap.size 147 3 (F OA (r).o.length oc) (r).o.length ((r).o.flatMap ae.enc)∧W9=dq W8 (w.heap.size+1+1) (F TA (r).t.length tc) (F OA (r).o.length oc) (O U (r).gt) (O U (r).sd) (O U (r).ms)):=⟨_,rfl⟩
 have CV:∀ W,D1 W→∃ W8 v0 v1 v2 v3 v4,Below W4.heap.size W4 W8∧W=dq W8 (w.heap.size+1+1) v0 v1 v2 v3 v4:=by
  rw [yV]
  rintro _ ⟨W8,TA,tc,OA,oc,hq,_,_,e⟩
  exact ⟨W8,_,_,_,_,_,hq,e⟩
 have zJ:=jZ yV; clear yV
 refine al (Sw 6 (fun W9=>Below W4.heap.size W4 W9) D1) (fun i w1 w2=>i ∉ [6]→Below w1.heap.size w1 w2) kZ kZ kZ (Sw.start jB.drew) ?_
 simp only [ax,Act.put,sA,gs0,gs1,Nat.zero_add,Nat.reduceAdd]
 refine aa _ (vb0C5 P4) ?_
 refine aa _ vb0 ?_
 refine aa _ (vb1 1) ?_
 refine aa (undef) (fun vs L9 w9 wK wI hB K9 wJ=>?hq3) ?rq3
 case hq3 =>
  replace wI:=sb wI wK
  have d2:=fe hB 2
  simp only [d2] at wJ ⊢
  go_simp
  exact wJ _ _ rfl (sy wK wI) bR
 refine aa (undef) (fun vs L9 w9 wK wI hB K9 wJ=>?hq4) ?rq4
 case hq4 =>
  replace wI:=sb wI wK
  have d3:=fe hB 3
  have d2:=fe hB 2
  simp only [d3,d2] at wJ ⊢
  go_simp
  exact wJ _ _ rfl (sy wK wI) bR
 refine aa _ (vo2 2 4) ?_
 refine aa (undef) (fun vs L9 w9 wK wI hB K9 wJ=>?hq6) ?rq6
 case hq6 =>
  replace wI:=wI.here wK
  have d0:=fe hB 0
  simp only [d0] at wJ ⊢
  have Lr:=yv.below wI yv.lt
  obtain ⟨z0,z1,z2,z3,z4⟩:=cells5 Lr
  obtain ⟨f0,f1,f2,f3,f4⟩:=frz5 Lr
  clear Lr
  go_simp
  exact wJ _ _ rfl (Sw.turn (by rw [zJ.out]; exact ⟨w9,TA,tc,OA,oc,wI,ac xt wI,ac xm wI,rfl⟩)) nq
 refine aa _ (va1 5) ?_
 refine ar fun vs L9 w9 wS wI hB=>?_
 replace wI:=wI.done wS dD
 have dl:=ag.eq (hB 7 _ rfl rfl dD)
 simp only [dl]
 clear hB dl
 rw [zJ.out] at wI
 obtain ⟨W8,TA,tc,OA,oc,wL,h1,h2,rfl⟩:=wI
 have Lr:=yv.below wL yv.lt
 have bz:=(b6.trans (wL.mono b6.size)).trans (cj (v0:=F TA (r).t.length tc) (v1:=F OA (r).o.length oc) (v2:=O U (r).gt) (v3:=O U (r).sd) (v4:=O U (r).ms) Lr (show w.heap.size≤(w.heap.size+1+1) by omega))
 have HT:=jZ (aR (v0:=F TA (r).t.length tc) (v1:=F OA (r).o.length oc) (v2:=O U (r).gt) (v3:=O U (r).sd) (v4:=O U (r).ms) Lr h1 cd)
 have HO:=jZ (aR (v0:=F TA (r).t.length tc) (v1:=F OA (r).o.length oc) (v2:=O U (r).gt) (v3:=O U (r).sd) (v4:=O U (r).ms) Lr h2 ci)
 have PR:=eD (v0:=F TA (r).t.length tc) (v1:=F OA (r).o.length oc) (v2:=O U (r).gt) (v3:=O U (r).sd) (v4:=O U (r).ms) Lr
 generalize dq W8 (w.heap.size+1+1) (F TA (r).t.length tc) (F OA (r).o.length oc) (O U (r).gt) (O U (r).sd) (O U (r).ms)=W9 at bz HT HO PR ⊢
 obtain ⟨k0,k1,k2,k3,k4⟩:=cells5 PR
 clear h1 h2 Lr wL wS PR
 go_wp2
 refine bodyPost_ret (v:=.tuple #[.agg #[F TA (r).t.length tc,F OA (r).o.length oc,O U (r).gt,O U (r).sd,O U (r).ms],.bool false]) (by simp [results,Tryz.results127,go_sem, *]) rfl ?_
 exact ⟨TA,tc,OA,oc,rfl,HT.out,HO.out,bz⟩
end Go.Proofs.YtoeoimhemojdeaaGreatDoor
namespace Go.Proofs.YtoeoimhemojdeaaGreatDoor
def vd (n:Int):Prop:=-999999≤n∧n≤999999
theorem kn {d:Nat} (h:d < 10):Lib.digitVal (UInt8.ofNat (48+d))=some d:=by
 have:(UInt8.ofNat (48+d)).toNat=48+d:=by simp [UInt8.toNat_ofNat']; omega
 unfold Lib.digitVal
 rw [this,if_pos oM]
 congr 1; omega
theorem mY:∀ (l r:List UInt8) (acc m:Nat),Lib.decFrom acc l=some m→Lib.decFrom acc (l++r)=Lib.decFrom m r
 | [],r,acc,m,h=>by simp only [Lib.decFrom,Option.some.injEq] at h; subst h; rfl
 | b :: l,r,acc,m,h=>by
  simp only [List.cons_append,Lib.decFrom] at h ⊢
  cases hb:Lib.digitVal b with
  | none=>rw [hb] at h; cases h
  | some d=>rw [hb] at h; exact mY l r _ _ h
theorem iQ (n:Nat):Lib.decFrom 0 (Lib.decDigits n)=some n:=by
 induction n using Nat.strongRecOn with
 | _ n ih =>
  rw [Lib.decDigits]
  by_cases h:n < 10
  ·rw [dif_pos h]
   simp only [Lib.decFrom,kn h]
   congr 1; omega
  ·rw [dif_neg h,mY _ _ _ _ (ih (n / 10) oM)]
   simp only [Lib.decFrom,kn (Nat.mod_lt n (by omega:0 < 10))]
   congr 1; omega
theorem ve (n:Nat):Lib.decDigits n ≠ []:=by
 intro h
 have h1:=Lib.decDigits_length n
 have h2:=Lib.nDigits_pos n
 rw [h] at h1; simp at h1; omega
theorem py (n:Nat):∀ b ∈ Lib.decDigits n,48≤b.toNat∧b.toNat≤57:=by
 intro b hb
 obtain ⟨k,hk,e⟩:=List.getElem_of_mem hb
 obtain ⟨d,hd⟩:=Lib.digit_of_decFrom _ _ _ (iQ n) k b (by rw [List.getElem?_eq_getElem hk,e])
 have:=Lib.digitVal_eq hd
 omega
theorem oh (n:Nat):Lib.decNat (Lib.decDigits n)=some n:=by
 unfold Lib.decNat
 rw [if_neg (by simp [ve])]
 exact iQ n
theorem mu (n:Int):Lib.atoi (Lib.itoa n)=some n:=by
 unfold Lib.itoa
 by_cases h:n < 0
 ·rw [if_pos h]
  simp only [Lib.atoi,beq_self_eq_true,if_true,oh,Option.map_some,Option.some.injEq]
  omega
 ·rw [if_neg h]
  obtain ⟨m,rfl⟩:=Int.eq_ofNat_of_zero_le (by omega:0≤n)
  rw [Int.toNat_natCast]
  cases hd:Lib.decDigits m with
  | nil=>exact absurd hd (ve m)
  | cons b r =>
   have hb:=py m b (by rw [hd]; simp)
   have h1:(b == 45)=false:=by
    rw [beq_eq_false_iff_ne]; intro e; subst e; have:(45:UInt8).toNat=45:=rfl; omega
   have h2:(b == 43)=false:=by
    rw [beq_eq_false_iff_ne]; intro e; subst e; have:(43:UInt8).toNat=43:=rfl; omega
   simp only [Lib.atoi,h1,h2,Bool.false_eq_true,if_false]
   rw [← hd,oh]
   rfl
theorem vf {n m:Int} (h:Lib.itoa n=Lib.itoa m):n=m:=by
 have:=mu n
 rw [h,mu m] at this
 exact (Option.some.inj this).symm
theorem iR {n:Nat} (h:n≤999999):Lib.nDigits n≤6:=by
 by_cases h0:n=0
 ·subst h0; rw [Lib.nDigits_small oM]; omega
 ·have h1:=Lib.nDigits_pos n
  by_cases h2:Lib.nDigits n≤6
  ·exact h2
  ·exfalso
   have key:∀ (k n:Nat),n < 10 ^ (k+1)→Lib.nDigits n≤k+1:=by
    intro k
    induction k with
    | zero=>intro n hn; rw [Lib.nDigits_small (by simpa using hn)]; omega
    | succ k ih =>
     intro n hn
     by_cases hs:n < 10
     ·rw [Lib.nDigits_small hs]; omega
     ·rw [Lib.nDigits_big hs]
      have:=ih (n / 10) (Nat.div_lt_of_lt_mul (by rw [Nat.mul_comm,← Nat.pow_succ]; exact hn))
      omega
   exact h2 (key 5 n oM)
theorem vh {n:Int} (h:vd n):1≤(Lib.itoa n).length∧(Lib.itoa n).length≤7:=by
 unfold Lib.itoa
 obtain ⟨h1,h2⟩:=h
 split
 ·have:=iR (n:=n.natAbs) oM
  rw [List.length_cons,Lib.decDigits_length]; omega
 ·have:=iR (n:=n.toNat) oM
  have h3:=Lib.nDigits_pos n.toNat
  rw [Lib.decDigits_length]; omega
open Classical in
noncomputable def dh (s:List UInt8):Option Int:=if h:∃ n,vd n∧Lib.itoa n=s then some h.choose else none
theorem uk {n:Int} (h:vd n):dh (Lib.itoa n)=some n:=by
 have zK:∃ m,vd m∧Lib.itoa m=Lib.itoa n:=⟨n,h,rfl⟩
 unfold dh
 rw [dif_pos zK]
 exact congrArg some (vf zK.choose_spec.2)
theorem ny {n:Int} {s:List UInt8} (h:vd n) (e:Lib.itoa n=s):dh s=some n:=e ▸ uk h
theorem iS {n:Int} {s:List UInt8} (h:dh s=some n):vd n∧Lib.itoa n=s:=by
 by_cases zK:∃ m,vd m∧Lib.itoa m=s
 ·unfold dh at h
  rw [dif_pos zK] at h
  have:=zK.choose_spec
  rw [Option.some.inj h] at this
  exact this
 ·unfold dh at h
  rw [dif_neg zK] at h; cases h
theorem rj {n:Int} (h:vd n):Lib.atoiAll (Lib.itoa n)=.ok n:=by
 rw [Lib.atoiAll_short _ (by have:=vh h; omega),mu]; rfl
theorem vi {s:List UInt8} {n:Int} (h:vd n) (e:Lib.itoa n=s) :
  (n < 0∧∃ t,s=45 :: t∧1≤t.length∧t.length≤6∧Lib.decFrom 0 t=some n.natAbs) ∨ (0≤n∧s.head? ≠ some 45∧1≤s.length∧s.length≤6∧Lib.decFrom 0 s=some n.natAbs):=by
 obtain ⟨h1,h2⟩:=h
 unfold Lib.itoa at e
 by_cases hn:n < 0
 ·left
  rw [if_pos hn] at e
  have h3:=iR (n:=n.natAbs) oM
  have h4:=Lib.nDigits_pos n.natAbs
  exact ⟨hn,_,e.symm,by rw [Lib.decDigits_length]; omega,by rw [Lib.decDigits_length]; omega,iQ _⟩
 ·right
  rw [if_neg hn] at e
  have h3:=iR (n:=n.toNat) oM
  have h4:=Lib.nDigits_pos n.toNat
  have h5:n.natAbs=n.toNat:=oM
  subst e
  refine ⟨oM, ?_,by rw [Lib.decDigits_length]; omega,by rw [Lib.decDigits_length]; omega,by rw [h5]; exact iQ _⟩
  intro hh
  have hm:(45:UInt8) ∈ Lib.decDigits n.toNat:=List.mem_of_mem_head? hh
  have:=py _ _ hm
  have h6:(45:UInt8).toNat=45:=rfl
  omega
end Go.Proofs.YtoeoimhemojdeaaGreatDoor
