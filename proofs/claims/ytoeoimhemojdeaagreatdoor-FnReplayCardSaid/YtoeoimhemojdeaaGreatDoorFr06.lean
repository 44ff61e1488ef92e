/- Lemmas. -/
import Derived.Test.YtoeoimhemojdeaaGreatDoorFr05

set_option linter.unusedVariables false
set_option linter.unusedSimpArgs false
set_option maxHeartbeats 8000000
open Go.Value renaming int → O, slice → F, string → xh
open Go.IntKind renaming i64 → U
open Go.Proofs.Tryz renaming prog → xi

namespace Go.Proofs.YtoeoimhemojdeaaGreatDoor
open Go.RowKit
def fk (w:World) (B:Nat) (y:Oc) (v:Value):Prop :=
 ∃ TA tc OA oc,v=.agg #[F TA y.t.length tc,F OA y.o.length oc,O U y.gt,O U y.sd,O U y.ms]∧w.ownsRow B 104 2 (F TA y.t.length tc) y.t.length (y.t.flatMap ar.enc) ∧
  w.ownsRow B 147 3 (F OA y.o.length oc) y.o.length (y.o.flatMap ae.enc)
def qg (w:World) (y:Oc) (e:Ending) (w' : World):Prop:=∃ v,e=.returned v∧fk w' w.heap.size y v∧Below w.heap.size w w'
theorem fk.below {w w' : World} {B:Nat} {y:Oc} {v:Value} (h:fk w B y v) (hb:Below w.heap.size w w'):fk w' B y v:=by
 obtain ⟨TA,tc,OA,oc,e,h1,h2⟩:=h
 exact ⟨TA,tc,OA,oc,e,ac h1 hb,ac h2 hb⟩
theorem fk.lower {w:World} {B B' : Nat} {y:Oc} {v:Value} (h:fk w B y v) (hB:B'≤B):fk w B' y v:=by
 obtain ⟨TA,tc,OA,oc,e,h1,h2⟩:=h
 exact ⟨TA,tc,OA,oc,e,ag h1 hB,ag h2 hB⟩
theorem fk.as {w:World} {B:Nat} {y:Oc} {v:Value} (h:fk w B y v):∃ x:aN,v=x.val∧x.c=y∧aQ w w.heap.size x∧x.t.length≤x.tc:=by
 obtain ⟨TA,tc,OA,oc,e,h1,h2⟩:=h
 exact ⟨y.at TA tc OA oc,e,rfl,⟨an h1,an h2⟩,iW h1⟩
theorem ej.v {w w' : World} {y:Oc} {e:Ending} (h:ej w y e w'):qg w y e w':=by
 obtain ⟨TA,tc,OA,oc,he,h1,h2,hb⟩:=h
 exact ⟨_,he,⟨TA,tc,OA,oc,rfl,h1,h2⟩,hb⟩
structure kX (y:Oc):Prop where
 tl:y.t.length≤1000000
 ol:y.o.length≤1000000
 tc:∀ t ∈ y.t, -1000000000≤t.c∧t.c≤1000000000
 ok:∀ o ∈ y.o,(1≤o.k∧o.k≤99)∧(1≤o.p∧o.p≤999)
theorem bK.small {x:aN} (G:bK x):kX x.c:=by
 refine ⟨by have:=G.tl; show x.t.length≤_; omega,by have:=G.ol; show x.o.length≤_; omega,fun t ht=>?_,fun o ho=>?_⟩
 ·obtain ⟨j,hj,rfl⟩:=List.getElem_of_mem (show t ∈ x.t from ht)
  have:=(ar.bounds (G.tall j hj)).2
  omega
 ·obtain ⟨j,hj,rfl⟩:=List.getElem_of_mem (show o ∈ x.o from ho)
  have:=ae.bounds (G.oall j hj)
  exact ⟨eC G.tall this.1,this.2.1⟩
theorem bK.tcs {x:aN} (G:bK x):∀ t ∈ x.t,0≤t.c∧t.c≤9999:=fun t ht=>by
 obtain ⟨j,hj,rfl⟩:=List.getElem_of_mem ht
 exact (ar.bounds (G.tall j hj)).2
theorem bK.move_bd {x:aN} (G:bK x) (st pe va:Int):0≤aO st va (aL st pe 0 x.o)∧aO st va (aL st pe 0 x.o)≤9999:=by
 rcases mj (k:=st) (p:=va) (aL st pe 0 x.o) with h | ⟨o,ho,_,hc⟩
 ·omega
 ·obtain ⟨j,hj,e⟩:=List.getElem_of_mem ((fu x.o).subset ho)
  have:=(ae.bounds (G.oall j hj)).2.2
  rw [e] at this; omega
theorem uq {k p c:Int} {l:List ae} (hk:1≤k∧k≤99) (hp:1≤p∧p≤999) (h:∀ o ∈ l,(1≤o.k∧o.k≤99)∧(1≤o.p∧o.p≤999)):∀ o ∈ aL k p c l,(1≤o.k∧o.k≤99)∧(1≤o.p∧o.p≤999):=fun o ho=>by
 rcases pW l c o ho with h1 | rfl
 ·exact h o h1
 ·exact ⟨hk,hp⟩
theorem tQ {k p:Int} : ∀ (l:List ae) (c:Int),(aL k p c l).length≤l.length+1
 | [],c=>by rw [aL]; split <;> simp
 | o :: l,c=>by
  have h0:=tQ (k:=k) (p:=p) l c
  have hz:(aL k p 0 l).length≤l.length:=(fu l).length_le
  rw [aL]
  split
  ·split <;> simp <;> omega
  ·split <;> simp <;> omega
theorem m5 (ts:List ar) (kd n:Int):(aj ts kd n).length≤ts.length+1:=by
 have:=kC ts kd
 unfold aj; split
 ·simp
 ·simp; omega
theorem kX.at {y:Oc} (h:kX y) {k p c:Int} (hk:1≤k∧k≤99) (hp:1≤p∧p≤999) (hl:y.o.length≤100):kX ⟨y.t,aL k p c y.o,y.gt,y.sd,y.ms⟩ :=
 ⟨h.tl,by have:=tQ (k:=k) (p:=p) y.o c; show (aL k p c y.o).length≤_; omega,h.tc,uq hk hp h.ok⟩
theorem kY {ts:List ar} {kd n:Int} (hn : -1000000≤n∧n≤1000000) (h:∀ t ∈ ts, -1000000≤t.c∧t.c≤1000000):∀ t ∈ aj ts kd n, -1000000000≤t.c∧t.c≤1000000000:=by
 intro t ht
 unfold aj at ht
 split at ht
 ·rename_i hx
  rcases List.mem_or_eq_of_mem_set ht with h1 | rfl
  ·have:=h t h1; omega
  ·have hl:=mi hx
   have:ts.getD (ay ts kd).toNat default ∈ ts:=by
    rw [List.getD_eq_getElem?_getD,List.getElem?_eq_getElem hl]; exact List.getElem_mem hl
   have:=h _ this
   simp only; omega
 ·rcases List.mem_append.1 ht with h1 | h1
  ·have:=h t (List.mem_of_mem_take h1); omega
  ·rcases List.mem_cons.1 h1 with rfl | h1
   ·simp only; omega
   ·have:=h t (List.mem_of_mem_drop h1); omega
theorem wU (x:aN) (kd n:Int) (w:World) (h:aQ w w.heap.size x) (S:kX x.c) (hn : -1000000000≤n∧n≤1000000000) (xA:x.t.length≤x.tc) :
  Calls xi 173 #[x.val,O U kd,O U n] w (qg w ⟨aj x.t kd n,x.o,x.gt,x.sd,x.ms⟩):=by
 have hb:∀ i (hi:i < x.t.length), -1000000000≤x.t[i].c∧x.t[i].c≤1000000000:=fun i hi=>S.tc _ (List.getElem_mem hi)
 by_cases hx:0≤ay x.t kd
 ·exact (ul x kd n w h S.tl S.ol hb hn hx).mono fun _ _ h=>h.v
 ·exact (un x kd n w h S.tl S.ol hb hn hx xA).mono fun _ _ h=>h.v
theorem wV (x:aN) (kd pe c:Int) (w:World) (h:aQ w w.heap.size x) (S:kX x.c) (GO:1≤kd∧kd≤99) (yE:1≤pe∧pe≤999) :
  Calls xi 202 #[x.val,O U kd,O U pe,O U c] w (qg w ⟨x.t,aL kd pe c x.o,x.gt,x.sd,x.ms⟩) :=
 (uo x kd pe c w h S.tl S.ol GO yE (fun i hi=>S.ok _ (List.getElem_mem hi))).mono fun _ _ h=>h.v
theorem xe {B:Nat} {y:Oc} {v:Value} {w:World} (kd pe c:Int) (h:fk w B y v) (S:kX y) (GO:1≤kd∧kd≤99) (yE:1≤pe∧pe≤999) :
  Calls xi 202 #[v,O U kd,O U pe,O U c] w (qg w ⟨y.t,aL kd pe c y.o,y.gt,y.sd,y.ms⟩):=by
 obtain ⟨x,rfl,rfl,hr,_⟩:=h.as
 exact wV x kd pe c w hr S GO yE
theorem xf {B:Nat} {y:Oc} {v:Value} {w:World} (kd pe:Int) (h:fk w B y v) :
  Calls xi 201 #[v,O U kd,O U pe] w fun e w'=>e=.returned (O U (aO kd pe y.o))∧Below w.heap.size w w':=by
 obtain ⟨x,rfl,rfl,hr,_⟩:=h.as
 exact gE x kd pe w hr
theorem vm {B:Nat} {y:Oc} {v:Value} {w:World} (h:fk w B y v) :
  Calls xi 82 #[v] w fun e w'=>e=.returned (.bool y.good)∧Below w.heap.size w w':=by
 obtain ⟨x,rfl,rfl,hr,_⟩:=h.as
 exact ei x w hr
def lN (w:World) (B g:Nat) (y:Oc):Prop:=∃ TA tc OA oc,aC w B g (F TA y.t.length tc) (F OA y.o.length oc) y
theorem lN.then {w w' : World} {B g:Nat} {y:Oc} (h:lN w B g y) (hb:Below w.heap.size w w'):lN w' B g y:=by
 obtain ⟨TA,tc,OA,oc,h⟩:=h; exact ⟨TA,tc,OA,oc,h.then hb⟩
theorem fk.store {w:World} {B g:Nat} {y:Oc} {TA OA:Option Addr} {tc oc:Nat} {a b c d e:Value} (h1:w.ownsRow B 104 2 (F TA y.t.length tc) y.t.length (y.t.flatMap ar.enc)) (h2:w.ownsRow B 147 3 (F OA y.o.length oc) y.o.length (y.o.flatMap ae.enc))
  (hL:ai w g 40 [a,b,c,d,e]) (hB:B≤g):lN (dr w g (F TA y.t.length tc) (F OA y.o.length oc) (O U y.gt) (O U y.sd) (O U y.ms)) B g y :=
 ⟨TA,tc,OA,oc,eD hL,hB,aR hL h1 cd,aR hL h2 ch⟩
theorem dz.of {w w' : World} {R:Oc × Bool} {e:Ending} {TA OA:Option Addr} {tc oc:Nat} (he:e=.returned (.tuple #[.agg #[F TA R.1.t.length tc,F OA R.1.o.length oc,O U R.1.gt,O U R.1.sd,O U R.1.ms],.bool R.2])) {g:Nat}
  (h:aC w' w.heap.size g (F TA R.1.t.length tc) (F OA R.1.o.length oc) R.1) (hb:Below w.heap.size w w'):dz w R e w':=⟨TA,tc,OA,oc,he,h.t,h.o,hb⟩
theorem Sw.lies {s g gr:Nat} {t:TypeId} {cs:List Value} {W1 w:World} {C1:World→Prop} {L:Nat→Bool} (h:Sw s (fun W9=>Below W1.heap.size W1 W9) C1 L w)
  (MJ:∀ W,C1 W→∃ W8 v0 v1 v2 v3 v4,Below W1.heap.size W1 W8∧W=dr W8 gr v0 v1 v2 v3 v4) (hL:ai W1 g t cs) (xw:g ≠ gr):ai w g t cs:=by
 unfold Sw at h
 split at h
 ·obtain ⟨W8,v0,v1,v2,v3,v4,hb,rfl⟩:=MJ _ h
  exact m4 (hL.below hb hL.lt) xw
 ·exact hL.below h hL.lt
def vn (w:World) (y:Oc) (v:Value):Prop:=∃ X:aN,v=X.val∧X.c=y∧aQ w w.heap.size X∧X.t.length≤X.tc
theorem vn.below {w w' : World} {y:Oc} {v:Value} (h:vn w y v) (hb:Below w.heap.size w w'):vn w' y v:=by
 obtain ⟨X,h1,h2,h3,h4⟩:=h; exact ⟨X,h1,h2,h3.then hb,h4⟩
def vp (w:World) (y:Oc) (b:Bool) (e:Ending) (w' : World):Prop:=∃ v,e=.returned (.tuple #[v,.bool b])∧fk w' w.heap.size y v∧Below w.heap.size w w'
theorem aE.r {w w' : World} {D:Option Oc} {e:Ending} (h:aE w D e w'):vp w (cQ D) D.isSome e w':=by
 obtain ⟨TA,tc,OA,oc,he,h1,h2,hb⟩:=h
 exact ⟨_,he,⟨TA,tc,OA,oc,rfl,h1,h2⟩,hb⟩
theorem vn.copy {x:aN} {w:World} {g1 g2:Nat} (h1:ai w g1 104 (x.t.flatMap ar.enc)) (h2:ai w g2 147 (x.o.flatMap ae.enc)) (hn:x.t.length≤1048576) (hm:x.o.length≤1048576):vn w x.c (x.copy g1 g2).val :=
 ⟨x.copy g1 g2,rfl,rfl,so h1 h2 hn hm,Nat.le_refl _⟩
structure ur (B:Nat) (w:World) (b o:Nat) (r:de):Prop where
 c0:∀ p:aq B w,p.val.cell? ⟨b,o,none⟩=some (O U r.kind)
 c1:∀ p:aq B w,p.val.cell? ⟨b,o+1,none⟩=some (O U r.stamp)
 c2:∀ p:aq B w,p.val.cell? ⟨b,o+2,none⟩=some (O U r.person)
 c3:∀ p:aq B w,p.val.cell? ⟨b,o+3,none⟩=some (O U r.value)
theorem ur.up {B B' : Nat} {w W:World} {b o:Nat} {r:de} (h:ur B w b o r) (hb:Below B w W) (hB:B≤B'):ur B' W b o r :=
 ⟨fun p=>h.c0 ⟨p.val,hb.trans (p.below.mono hB)⟩,fun p=>h.c1 ⟨p.val,hb.trans (p.below.mono hB)⟩,fun p=>h.c2 ⟨p.val,hb.trans (p.below.mono hB)⟩,fun p=>h.c3 ⟨p.val,hb.trans (p.below.mono hB)⟩⟩
theorem ur.of {W:World} {g:Nat} {t:TypeId} {r:de} (h:ai W g t r.enc):ur W.heap.size W g 0 r :=
 ⟨fun p=>(p.cell h.lt).trans (h.cell 0),fun p=>(p.cell h.lt).trans (h.cell 1),fun p=>(p.cell h.lt).trans (h.cell 2),fun p=>(p.cell h.lt).trans (h.cell 3)⟩
abbrev vq (w:World) (B:Nat) (A:Option Addr) (l:List de):Prop:=bi w B 4 A l.length (l.flatMap de.enc)
theorem vq.el {w:World} {B:Nat} {A:Option Addr} {l:List de} (h:vq w B A l) (xw:0 < l.length):∃ b off,A=some ⟨b,off,none⟩∧b < B∧∀ i (hi:i < l.length),ur B w b (off+i * 4) l[i]:=by
 obtain ⟨b,off,e,hb,hc⟩:=h.at_ xw
 refine ⟨b,off,e,hb,fun i hi=>?_⟩
 have key:∀ j,j < 4→∀ u,(l[i].enc)[j]?=some u→∀ p:aq B w,p.val.cell? ⟨b,off+i * 4+j,none⟩=some u:=fun j hj u hu p=>by
  rw [p.cell hb,Nat.add_assoc]
  exact hc _ u (by rw [fm de.enc 4 de.enc_len l i hi j hj]; exact hu)
 exact ⟨key 0 oM _ rfl,key 1 oM _ rfl,key 2 oM _ rfl,key 3 oM _ rfl⟩
set_option maxRecDepth 100000 in
theorem qY (x:aN) (st pe va:Int) (w:World) (h:aQ w w.heap.size x) (G:bK x) (xA:x.t.length≤x.tc) (xM:1≤st∧st≤99) (yE:1≤pe∧pe≤999) (zR:1≤va∧va≤9999) :
  Calls xi 175 #[x.val,.agg #[O U 2,O U st,O U pe,O U va]] w (dz w ((⟨aj x.t st (-va),aL st pe (aO st pe x.o+va) x.o,x.gt,x.sd,x.ms⟩ : Oc),true)):=by
 have L1:=((ai.new w 40 #[F x.TA x.t.length x.tc,F x.OA x.o.length x.oc,O U x.gt,O U x.sd,O U x.ms]).alloc (.cells #[O U 2,O U st,O U pe,O U va] 112)).alloc (.cells #[F none 0 0,F none 0 0,O U 0,O U 0,O U 0] 40)
 have L2:=(ai.new1 w (.cells #[F x.TA x.t.length x.tc,F x.OA x.o.length x.oc,O U x.gt,O U x.sd,O U x.ms] 40) 112 #[O U 2,O U st,O U pe,O U va]).alloc (.cells #[F none 0 0,F none 0 0,O U 0,O U 0,O U 0] 40)
 have L3:=ai.new2 w (.cells #[F x.TA x.t.length x.tc,F x.OA x.o.length x.oc,O U x.gt,O U x.sd,O U x.ms] 40) (.cells #[O U 2,O U st,O U pe,O U va] 112) 40 #[F none 0 0,F none 0 0,O U 0,O U 0,O U 0]
 have b1:=bZ w (.cells #[F x.TA x.t.length x.tc,F x.OA x.o.length x.oc,O U x.gt,O U x.sd,O U x.ms] 40)
 have b2:=b1.alloc b1.size (.cells #[O U 2,O U st,O U pe,O U va] 112)
 have b3:=b2.alloc b2.size (.cells #[F none 0 0,F none 0 0,O U 0,O U 0,O U 0] 40)
 have Sx:=G.small
 have CC:=G.tl
 have CD:=G.ol
 have AQ:=G.tcs
 obtain ⟨m1,m2⟩:=G.m
 obtain ⟨g1,g2⟩:=G.s
 obtain ⟨n1,n2⟩:=G.at_bd st pe
 obtain ⟨n,hn⟩ : ∃ n,aO st pe x.o=n:=⟨_,rfl⟩
 rw [hn] at n1 n2 ⊢
 clear b1 b2 G
 go_enter Tryz.func175,Tryz.ntmps175
 go_wp2_with fail
 generalize (((w.alloc (.cells #[F x.TA x.t.length x.tc,F x.OA x.o.length x.oc,O U x.gt,O U x.sd,O U x.ms] 40)).alloc (.cells #[O U 2,O U st,O U pe,O U va] 112)).alloc (.cells #[F none 0 0,F none 0 0,O U 0,O U 0,O U 0] 40))=W at L1 L2 L3 b3 ⊢
 have hR:=h.up b3 nR
 refine (gE x st pe W hR).mono ?_
 rintro e W1 ⟨rfl,xp⟩
 rw [hn]
 have yV:=hR.then xp
 have x9:=L1.below xp L1.lt
 have xU:=L2.below xp L2.lt
 have yi:=L3.below xp L3.lt
 have b4:=b3.trans (xp.mono b3.size)
 have zr:w.heap.size≤W1.heap.size:=b4.size
 have hn:=jZ hn
 clear L1 L2 L3 b3 xp hR h
 obtain ⟨c0,c1,c2,c3,c4⟩:=cells5 x9
 obtain ⟨s0,s1,s2,s3⟩:=cells4 xU
 obtain ⟨v1,v2⟩:=zR
 have S1:kX (⟨aj x.t st (-va),x.o,x.gt,x.sd,x.ms⟩ : Oc):=⟨by have:=m5 x.t st (-va); show (aj x.t st (-va)).length≤_; omega,Sx.ol,kY oM (fun t ht=>by have:=AQ t ht; omega),Sx.ok⟩
 go_wp2
 obtain ⟨D1,zt⟩ : ∃ D:World→Prop,D=(fun W9=>∃ W8 TA tc OA oc,Below W1.heap.size W1 W8∧W8.ownsRow w.heap.size 104 2 (F TA ((⟨aj x.t st (-va),aL st pe (n+va) x.o,x.gt,x.sd,x.ms⟩ : Oc)).t.length tc) ((⟨aj x.t st (-va),aL st pe (n+va) x.o,x.gt,x.sd,x.ms⟩ : Oc)).t.length (((⟨aj x.t st (-va),aL st pe (n+va) x.o,x.gt,x.sd,x.ms⟩ : Oc)).t.flatMap ar.enc)∧W8.ownsRow w.heap.size 147 3 (F OA ((⟨aj x.t st (-va),aL st pe (n+va) x.o,x.gt,x.sd,x.ms⟩ : Oc)).o.length oc) ((⟨aj x.t st (-va),aL st pe (n+va) x.o,x.gt,x.sd,x.ms⟩ : Oc)).o.length (((⟨aj x.t st (-va),aL st pe (n+va) x.o,x.gt,x.sd,x.ms⟩ : Oc)).o.flatMap ae.enc)∧W9=dr W8 (w.heap.size+1+1) (F TA ((⟨aj x.t st (-va),aL st pe (n+va) x.o,x.gt,x.sd,x.ms⟩ : Oc)).t.length tc) (F OA ((⟨aj x.t st (-va),aL st pe (n+va) x.o,x.gt,x.sd,x.ms⟩ : Oc)).o.length oc) (O U ((⟨aj x.t st (-va),aL st pe (n+va) x.o,x.gt,x.sd,x.ms⟩ : Oc)).gt) (O U ((⟨aj x.t st (-va),aL st pe (n+va) x.o,x.gt,x.sd,x.ms⟩ : Oc)).sd) (O U ((⟨aj x.t st (-va),aL st pe (n+va) x.o,x.gt,x.sd,x.ms⟩ : Oc)).ms)):=⟨_,rfl⟩
 have Do:∀ W,D1 W→∃ W8 v0 v1 v2 v3 v4,Below W1.heap.size W1 W8∧W=dr W8 (w.heap.size+1+1) v0 v1 v2 v3 v4:=by
  rw [zt]
  rintro _ ⟨W8,TA,tc,OA,oc,hq,_,_,e⟩
  exact ⟨W8,_,_,_,_,_,hq,e⟩
 have Aa:=jZ zt; clear zt
 refine al (Sw 16 (fun W9=>Below W1.heap.size W1 W9) D1) (fun i w1 w2=>i ∉ [16]→Below w1.heap.size w1 w2) kZ kZ kZ (Sw.start jB.drew) ?_
 simp only [ax,Act.put,sA,gs0,gs1,Nat.zero_add,Nat.reduceAdd]
 refine aa _ (vb0C5 x9) ?_
 refine aa _ vb0 ?_
 refine aa _ (vb1c1 1 xU 1) ?_
 refine aa _ vb0 ?_
 refine aa _ (vb1c1 3 xU 3) ?_
 refine aa _ (vb1i 4 (show IntKind.i64.wrap (-va) = -va from IntWalk.i64_in _ oM)) ?_
 refine af [16] (fun v w9=>fk w9 w.heap.size (⟨aj x.t st (-va),x.o,x.gt,x.sd,x.ms⟩ : Oc) v) ?ss6 (fun vs L9 w9 xl xj hB K9 xk=>?hs6) ?rs6
 case ss6 =>
  intro i9 yg hb9 ha9 v w1 w2 hv xJ
  have hb:=xJ (fun hm=>by
   simp only [mC,mN,oF] at hm hb9
   subst hm
   ·exact hb9 sP)
  exact hv.below hb
 case hs6 =>
  replace xj:=sb xj xl
  have d0:=fe hB 0
  have d2:=fe hB 2
  have d5:=fe hB 5
  simp only [d0,d2,d5] at xk ⊢
  simp only [Act.put,sA,gs0,gs1] at xk
  go_simp
  refine (wU x st (-va) _ (yV.then xj) Sx oM xA).mono ?_
  rintro en w8 ⟨v8,rfl,Bs,xm⟩
  exact xk _ _ _ rfl (Bs.lower (jT zr xj.size)) (Sw.stay xl kZ dD (xj.trans (xm.mono xj.size))) (fun _=>xm)
 refine aa _ vb0 ?_
 refine aa _ (vb1c1 7 xU 1) ?_
 refine aa _ vb0 ?_
 refine aa _ (vb1c1 9 xU 2) ?_
 refine aa _ vb0 ?_
 refine aa _ vb0 ?_
 refine aa _ (vb1c1 12 xU 3) ?_
 refine aa _ (vb2i 11 13 (show IntKind.i64.wrap (n+va)=n+va from IntWalk.i64_in _ oM)) ?_
 refine af [16] (fun v w9=>fk w9 w.heap.size (⟨aj x.t st (-va),aL st pe (n+va) x.o,x.gt,x.sd,x.ms⟩ : Oc) v) ?ss15 (fun vs L9 w9 xl xj hB K9 xk=>?hs15) ?rs15
 case ss15 =>
  intro i9 yg hb9 ha9 v w1 w2 hv xJ
  have hb:=xJ (fun hm=>by
   simp only [mC,mN,oF] at hm hb9
   subst hm
   ·exact hb9 sP)
  exact hv.below hb
 case hs15 =>
  replace xj:=sb xj xl
  have d8:=fe hB 8
  have d10:=fe hB 10
  have d14:=fe hB 14
  simp only [d8,d10,d14] at xk ⊢
  simp only [Act.put,sA,gs0,gs1] at xk
  have h6:=fs hB 6
  go_simp
  refine (xe st pe (n+va) h6 S1 xM yE).mono ?_
  rintro en w8 ⟨v8,rfl,Bs,xm⟩
  exact xk _ _ _ rfl (Bs.lower (jT zr xj.size)) (Sw.stay xl kZ dD (xj.trans (xm.mono xj.size))) (fun _=>xm)
 refine aa (undef) (fun vs L9 w9 xl xj hB K9 xk=>?hs16) ?rs16
 case hs16 =>
  replace xj:=xj.here xl
  obtain ⟨TA,tc,OA,oc,e15,h1,h2⟩:=fs hB 15
  simp only [e15] at xk ⊢
  have Lr:=yi.below xj yi.lt
  obtain ⟨z0,z1,z2,z3,z4⟩:=cells5 Lr
  obtain ⟨f0,f1,f2,f3,f4⟩:=frz5 Lr
  have h1:=jZ h1
  have h2:=jZ h2
  clear Lr
  go_simp
  exact xk _ _ rfl (Sw.turn (by rw [Aa.out]; exact ⟨w9,TA,tc,OA,oc,xj,h1.out,h2.out,rfl⟩)) nq
 refine aa _ va0 ?_
 refine au fun vs L9 w9 xv xj hB=>?_
 replace xj:=xj.done xv dD
 have dl:=ah.eq (hB 17 _ rfl rfl dD)
 simp only [dl]
 clear hB dl
 rw [Aa.out] at xj
 obtain ⟨W8,TA,tc,OA,oc,xm,h1,h2,rfl⟩:=xj
 have Lr:=yi.below xm yi.lt
 have bz:=(b4.trans (xm.mono b4.size)).trans (ci (v0:=F TA ((⟨aj x.t st (-va),aL st pe (n+va) x.o,x.gt,x.sd,x.ms⟩ : Oc)).t.length tc) (v1:=F OA ((⟨aj x.t st (-va),aL st pe (n+va) x.o,x.gt,x.sd,x.ms⟩ : Oc)).o.length oc) (v2:=O U ((⟨aj x.t st (-va),aL st pe (n+va) x.o,x.gt,x.sd,x.ms⟩ : Oc)).gt) (v3:=O U ((⟨aj x.t st (-va),aL st pe (n+va) x.o,x.gt,x.sd,x.ms⟩ : Oc)).sd) (v4:=O U ((⟨aj x.t st (-va),aL st pe (n+va) x.o,x.gt,x.sd,x.ms⟩ : Oc)).ms) Lr (show w.heap.size≤(w.heap.size+1+1) by omega))
 have HT:=jZ (aR (v0:=F TA ((⟨aj x.t st (-va),aL st pe (n+va) x.o,x.gt,x.sd,x.ms⟩ : Oc)).t.length tc) (v1:=F OA ((⟨aj x.t st (-va),aL st pe (n+va) x.o,x.gt,x.sd,x.ms⟩ : Oc)).o.length oc) (v2:=O U ((⟨aj x.t st (-va),aL st pe (n+va) x.o,x.gt,x.sd,x.ms⟩ : Oc)).gt) (v3:=O U ((⟨aj x.t st (-va),aL st pe (n+va) x.o,x.gt,x.sd,x.ms⟩ : Oc)).sd) (v4:=O U ((⟨aj x.t st (-va),aL st pe (n+va) x.o,x.gt,x.sd,x.ms⟩ : Oc)).ms) Lr h1 cd)
 have HO:=jZ (aR (v0:=F TA ((⟨aj x.t st (-va),aL st pe (n+va) x.o,x.gt,x.sd,x.ms⟩ : Oc)).t.length tc) (v1:=F OA ((⟨aj x.t st (-va),aL st pe (n+va) x.o,x.gt,x.sd,x.ms⟩ : Oc)).o.length oc) (v2:=O U ((⟨aj x.t st (-va),aL st pe (n+va) x.o,x.gt,x.sd,x.ms⟩ : Oc)).gt) (v3:=O U ((⟨aj x.t st (-va),aL st pe (n+va) x.o,x.gt,x.sd,x.ms⟩ : Oc)).sd) (v4:=O U ((⟨aj x.t st (-va),aL st pe (n+va) x.o,x.gt,x.sd,x.ms⟩ : Oc)).ms) Lr h2 ch)
 have PR:=eD (v0:=F TA ((⟨aj x.t st (-va),aL st pe (n+va) x.o,x.gt,x.sd,x.ms⟩ : Oc)).t.length tc) (v1:=F OA ((⟨aj x.t st (-va),aL st pe (n+va) x.o,x.gt,x.sd,x.ms⟩ : Oc)).o.length oc) (v2:=O U ((⟨aj x.t st (-va),aL st pe (n+va) x.o,x.gt,x.sd,x.ms⟩ : Oc)).gt) (v3:=O U ((⟨aj x.t st (-va),aL st pe (n+va) x.o,x.gt,x.sd,x.ms⟩ : Oc)).sd) (v4:=O U ((⟨aj x.t st (-va),aL st pe (n+va) x.o,x.gt,x.sd,x.ms⟩ : Oc)).ms) Lr
 generalize dr W8 (w.heap.size+1+1) (F TA ((⟨aj x.t st (-va),aL st pe (n+va) x.o,x.gt,x.sd,x.ms⟩ : Oc)).t.length tc) (F OA ((⟨aj x.t st (-va),aL st pe (n+va) x.o,x.gt,x.sd,x.ms⟩ : Oc)).o.length oc) (O U ((⟨aj x.t st (-va),aL st pe (n+va) x.o,x.gt,x.sd,x.ms⟩ : Oc)).gt) (O U ((⟨aj x.t st (-va),aL st pe (n+va) x.o,x.gt,x.sd,x.ms⟩ : Oc)).sd) (O U ((⟨aj x.t st (-va),aL st pe (n+va) x.o,x.gt,x.sd,x.ms⟩ : Oc)).ms)=W9 at bz HT HO PR ⊢
 obtain ⟨k0,k1,k2,k3,k4⟩:=cells5 PR
 clear h1 h2 Lr xm xv PR
 go_wp2
 refine bodyPost_ret (v:=.tuple #[.agg #[F TA ((⟨aj x.t st (-va),aL st pe (n+va) x.o,x.gt,x.sd,x.ms⟩ : Oc)).t.length tc,F OA ((⟨aj x.t st (-va),aL st pe (n+va) x.o,x.gt,x.sd,x.ms⟩ : Oc)).o.length oc,O U ((⟨aj x.t st (-va),aL st pe (n+va) x.o,x.gt,x.sd,x.ms⟩ : Oc)).gt,O U ((⟨aj x.t st (-va),aL st pe (n+va) x.o,x.gt,x.sd,x.ms⟩ : Oc)).sd,O U ((⟨aj x.t st (-va),aL st pe (n+va) x.o,x.gt,x.sd,x.ms⟩ : Oc)).ms],.bool true]) (by simp [results,Tryz.results175,go_sem, *]) rfl ?_
 exact ⟨TA,tc,OA,oc,rfl,HT.out,HO.out,bz⟩
set_option maxRecDepth 100000 in
theorem qZ (x:aN) (st pe va:Int) (w:World) (h:aQ w w.heap.size x) (G:bK x) (xA:x.t.length≤x.tc) (xM:1≤st∧st≤99) (yE:1≤pe∧pe≤999) (zR:1≤va∧va≤9999) :
  Calls xi 175 #[x.val,.agg #[O U 3,O U st,O U pe,O U va]] w (dz w ((⟨aj x.t st va,aL st pe (aO st pe x.o - va) x.o,x.gt,x.sd,x.ms⟩ : Oc),decide (va≤aO st pe x.o))):=by
 have L1:=((ai.new w 40 #[F x.TA x.t.length x.tc,F x.OA x.o.length x.oc,O U x.gt,O U x.sd,O U x.ms]).alloc (.cells #[O U 3,O U st,O U pe,O U va] 112)).alloc (.cells #[F none 0 0,F none 0 0,O U 0,O U 0,O U 0] 40)
 have L2:=(ai.new1 w (.cells #[F x.TA x.t.length x.tc,F x.OA x.o.length x.oc,O U x.gt,O U x.sd,O U x.ms] 40) 112 #[O U 3,O U st,O U pe,O U va]).alloc (.cells #[F none 0 0,F none 0 0,O U 0,O U 0,O U 0] 40)
 have L3:=ai.new2 w (.cells #[F x.TA x.t.length x.tc,F x.OA x.o.length x.oc,O U x.gt,O U x.sd,O U x.ms] 40) (.cells #[O U 3,O U st,O U pe,O U va] 112) 40 #[F none 0 0,F none 0 0,O U 0,O U 0,O U 0]
 have b1:=bZ w (.cells #[F x.TA x.t.length x.tc,F x.OA x.o.length x.oc,O U x.gt,O U x.sd,O U x.ms] 40)
 have b2:=b1.alloc b1.size (.cells #[O U 3,O U st,O U pe,O U va] 112)
 have b3:=b2.alloc b2.size (.cells #[F none 0 0,F none 0 0,O U 0,O U 0,O U 0] 40)
 have Sx:=G.small
 have CC:=G.tl
 have CD:=G.ol
 have AQ:=G.tcs
 obtain ⟨m1,m2⟩:=G.m
 obtain ⟨g1,g2⟩:=G.s
 obtain ⟨n1,n2⟩:=G.at_bd st pe
 obtain ⟨n,hn⟩ : ∃ n,aO st pe x.o=n:=⟨_,rfl⟩
 rw [hn] at n1 n2 ⊢
 clear b1 b2 G
 go_enter Tryz.func175,Tryz.ntmps175
 go_wp2_with fail
 generalize (((w.alloc (.cells #[F x.TA x.t.length x.tc,F x.OA x.o.length x.oc,O U x.gt,O U x.sd,O U x.ms] 40)).alloc (.cells #[O U 3,O U st,O U pe,O U va] 112)).alloc (.cells #[F none 0 0,F none 0 0,O U 0,O U 0,O U 0] 40))=W at L1 L2 L3 b3 ⊢
 have hR:=h.up b3 nR
 refine (gE x st pe W hR).mono ?_
 rintro e W1 ⟨rfl,xp⟩
 rw [hn]
 have yV:=hR.then xp
 have x9:=L1.below xp L1.lt
 have xU:=L2.below xp L2.lt
 have yi:=L3.below xp L3.lt
 have b4:=b3.trans (xp.mono b3.size)
 have zr:w.heap.size≤W1.heap.size:=b4.size
 have hn:=jZ hn
 clear L1 L2 L3 b3 xp hR h
 obtain ⟨c0,c1,c2,c3,c4⟩:=cells5 x9
 obtain ⟨s0,s1,s2,s3⟩:=cells4 xU
 obtain ⟨v1,v2⟩:=zR
 have S1:kX (⟨aj x.t st va,x.o,x.gt,x.sd,x.ms⟩ : Oc):=⟨by have:=m5 x.t st va; show (aj x.t st va).length≤_; omega,Sx.ol,kY oM (fun t ht=>by have:=AQ t ht; omega),Sx.ok⟩
 go_wp2
 obtain ⟨D1,zt⟩ : ∃ D:World→Prop,D=(fun W9=>∃ W8 TA tc OA oc,Below W1.heap.size W1 W8∧W8.ownsRow w.heap.size 104 2 (F TA ((⟨aj x.t st va,aL st pe (n - va) x.o,x.gt,x.sd,x.ms⟩ : Oc)).t.length tc) ((⟨aj x.t st va,aL st pe (n - va) x.o,x.gt,x.sd,x.ms⟩ : Oc)).t.length (((⟨aj x.t st va,aL st pe (n - va) x.o,x.gt,x.sd,x.ms⟩ : Oc)).t.flatMap ar.enc)∧W8.ownsRow w.heap.size 147 3 (F OA ((⟨aj x.t st va,aL st pe (n - va) x.o,x.gt,x.sd,x.ms⟩ : Oc)).o.length oc) ((⟨aj x.t st va,aL st pe (n - va) x.o,x.gt,x.sd,x.ms⟩ : Oc)).o.length (((⟨aj x.t st va,aL st pe (n - va) x.o,x.gt,x.sd,x.ms⟩ : Oc)).o.flatMap ae.enc)∧W9=dr W8 (w.heap.size+1+1) (F TA ((⟨aj x.t st va,aL st pe (n - va) x.o,x.gt,x.sd,x.ms⟩ : Oc)).t.length tc) (F OA ((⟨aj x.t st va,aL st pe (n - va) x.o,x.gt,x.sd,x.ms⟩ : Oc)).o.length oc) (O U ((⟨aj x.t st va,aL st pe (n - va) x.o,x.gt,x.sd,x.ms⟩ : Oc)).gt) (O U ((⟨aj x.t st va,aL st pe (n - va) x.o,x.gt,x.sd,x.ms⟩ : Oc)).sd) (O U ((⟨aj x.t st va,aL st pe (n - va) x.o,x.gt,x.sd,x.ms⟩ : Oc)).ms)):=⟨_,rfl⟩
 have Do:∀ W,D1 W→∃ W8 v0 v1 v2 v3 v4,Below W1.heap.size W1 W8∧W=dr W8 (w.heap.size+1+1) v0 v1 v2 v3 v4:=by
  rw [zt]
  rintro _ ⟨W8,TA,tc,OA,oc,hq,_,_,e⟩
  exact ⟨W8,_,_,_,_,_,hq,e⟩
 have Aa:=jZ zt; clear zt
 refine al (Sw 19 (fun W9=>Below W1.heap.size W1 W9) D1) (fun i w1 w2=>i ∉ [19]→Below w1.heap.size w1 w2) kZ kZ kZ (Sw.start jB.drew) ?_
 simp only [ax,Act.put,sA,gs0,gs1,Nat.zero_add,Nat.reduceAdd]
 refine aa _ (vb0C5 x9) ?_
 refine aa _ vb0 ?_
 refine aa _ (vb1c1 1 xU 1) ?_
 refine aa _ vb0 ?_
 refine aa _ (vb1c1 3 xU 3) ?_
 refine af [19] (fun v w9=>fk w9 w.heap.size (⟨aj x.t st va,x.o,x.gt,x.sd,x.ms⟩ : Oc) v) ?sb5 (fun vs L9 w9 xl xj hB K9 xk=>?hb5) ?rb5
 case sb5 =>
  intro i9 yg hb9 ha9 v w1 w2 hv xJ
  have hb:=xJ (fun hm=>by
   simp only [mC,mN,oF] at hm hb9
   subst hm
   ·exact hb9 sP)
  exact hv.below hb
 case hb5 =>
  replace xj:=sb xj xl
  have d0:=fe hB 0
  have d2:=fe hB 2
  have d4:=fe hB 4
  simp only [d0,d2,d4] at xk ⊢
  simp only [Act.put,sA,gs0,gs1] at xk
  go_simp
  refine (wU x st va _ (yV.then xj) Sx oM xA).mono ?_
  rintro en w8 ⟨v8,rfl,Bs,xm⟩
  exact xk _ _ _ rfl (Bs.lower (jT zr xj.size)) (Sw.stay xl kZ dD (xj.trans (xm.mono xj.size))) (fun _=>xm)
 refine aa _ vb0 ?_
 refine aa _ (vb1c1 6 xU 1) ?_
 refine aa _ vb0 ?_
 refine aa _ (vb1c1 8 xU 2) ?_
 refine aa _ vb0 ?_
 refine aa _ vb0 ?_
 refine aa _ (vb1c1 11 xU 3) ?_
 refine aa _ (vb2i 10 12 (show IntKind.i64.wrap (n - va)=n - va from IntWalk.i64_in _ oM)) ?_
 refine af [19] (fun v w9=>fk w9 w.heap.size (⟨aj x.t st va,aL st pe (n - va) x.o,x.gt,x.sd,x.ms⟩ : Oc) v) ?sb14 (fun vs L9 w9 xl xj hB K9 xk=>?hb14) ?rb14
 case sb14 =>
  intro i9 yg hb9 ha9 v w1 w2 hv xJ
  have hb:=xJ (fun hm=>by
   simp only [mC,mN,oF] at hm hb9
   subst hm
   ·exact hb9 sP)
  exact hv.below hb
 case hb14 =>
  replace xj:=sb xj xl
  have d7:=fe hB 7
  have d9:=fe hB 9
  have d13:=fe hB 13
  simp only [d7,d9,d13] at xk ⊢
  simp only [Act.put,sA,gs0,gs1] at xk
  have h6:=fs hB 5
  go_simp
  refine (xe st pe (n - va) h6 S1 xM yE).mono ?_
  rintro en w8 ⟨v8,rfl,Bs,xm⟩
  exact xk _ _ _ rfl (Bs.lower (jT zr xj.size)) (Sw.stay xl kZ dD (xj.trans (xm.mono xj.size))) (fun _=>xm)
 refine aa _ vo0 ?_
 refine aa _ vo0 ?_
 apply aa
 case h1 =>
  intro vs L9 w9 xl xj hB K9 xk
  have d16:=fe hB 16
  simp only [d16] at xk ⊢
  have q0:w9.cell? ⟨(w.heap.size+1),3,none⟩=some (O U va):=(xj.lies Do xU oM).cell 3
  simp only [Act.put,sA,gs0,gs1] at xk
  have zv:=jZ xj
  clear xj
  go_simp
  exact xk _ _ rfl (Sw.both dD (fun h=>h) (fun h=>h) zv.out) bR
 refine aa _ (vo2 15 17) ?_
 refine aa (undef) (fun vs L9 w9 xl xj hB K9 xk=>?hb19) ?rb19
 case hb19 =>
  replace xj:=xj.here xl
  obtain ⟨TA,tc,OA,oc,e15,h1,h2⟩:=fs hB 14
  simp only [e15] at xk ⊢
  have Lr:=yi.below xj yi.lt
  obtain ⟨z0,z1,z2,z3,z4⟩:=cells5 Lr
  obtain ⟨f0,f1,f2,f3,f4⟩:=frz5 Lr
  have h1:=jZ h1
  have h2:=jZ h2
  clear Lr
  go_simp
  exact xk _ _ rfl (Sw.turn (by rw [Aa.out]; exact ⟨w9,TA,tc,OA,oc,xj,h1.out,h2.out,rfl⟩)) nq
 refine aa _ (va1 18) ?_
 refine au fun vs L9 w9 xv xj hB=>?_
 replace xj:=xj.done xv dD
 have dl:=ah.eq (hB 20 _ rfl rfl dD)
 simp only [dl]
 clear hB dl
 rw [Aa.out] at xj
 obtain ⟨W8,TA,tc,OA,oc,xm,h1,h2,rfl⟩:=xj
 have Lr:=yi.below xm yi.lt
 have bz:=(b4.trans (xm.mono b4.size)).trans (ci (v0:=F TA ((⟨aj x.t st va,aL st pe (n - va) x.o,x.gt,x.sd,x.ms⟩ : Oc)).t.length tc) (v1:=F OA ((⟨aj x.t st va,aL st pe (n - va) x.o,x.gt,x.sd,x.ms⟩ : Oc)).o.length oc) (v2:=O U ((⟨aj x.t st va,aL st pe (n - va) x.o,x.gt,x.sd,x.ms⟩ : Oc)).gt) (v3:=O U ((⟨aj x.t st va,aL st pe (n - va) x.o,x.gt,x.sd,x.ms⟩ : Oc)).sd) (v4:=O U ((⟨aj x.t st va,aL st pe (n - va) x.o,x.gt,x.sd,x.ms⟩ : Oc)).ms) Lr (show w.heap.size≤(w.heap.size+1+1) by omega))
 have HT:=jZ (aR (v0:=F TA ((⟨aj x.t st va,aL st pe (n - va) x.o,x.gt,x.sd,x.ms⟩ : Oc)).t.length tc) (v1:=F OA ((⟨aj x.t st va,aL st pe (n - va) x.o,x.gt,x.sd,x.ms⟩ : Oc)).o.length oc) (v2:=O U ((⟨aj x.t st va,aL st pe (n - va) x.o,x.gt,x.sd,x.ms⟩ : Oc)).gt) (v3:=O U ((⟨aj x.t st va,aL st pe (n - va) x.o,x.gt,x.sd,x.ms⟩ : Oc)).sd) (v4:=O U ((⟨aj x.t st va,aL st pe (n - va) x.o,x.gt,x.sd,x.ms⟩ : Oc)).ms) Lr h1 cd)
 have HO:=jZ (aR (v0:=F TA ((⟨aj x.t st va,aL st pe (n - va) x.o,x.gt,x.sd,x.ms⟩ : Oc)).t.length tc) (v1:=F OA ((⟨aj x.t st va,aL st pe (n - va) x.o,x.gt,x.sd,x.ms⟩ : Oc)).o.length oc) (v2:=O U ((⟨aj x.t st va,aL st pe (n - va) x.o,x.gt,x.sd,x.ms⟩ : Oc)).gt) (v3:=O U ((⟨aj x.t st va,aL st pe (n - va) x.o,x.gt,x.sd,x.ms⟩ : Oc)).sd) (v4:=O U ((⟨aj x.t st va,aL st pe (n - va) x.o,x.gt,x.sd,x.ms⟩ : Oc)).ms) Lr h2 ch)
 have PR:=eD (v0:=F TA ((⟨aj x.t st va,aL st pe (n - va) x.o,x.gt,x.sd,x.ms⟩ : Oc)).t.length tc) (v1:=F OA ((⟨aj x.t st va,aL st pe (n - va) x.o,x.gt,x.sd,x.ms⟩ : Oc)).o.length oc) (v2:=O U ((⟨aj x.t st va,aL st pe (n - va) x.o,x.gt,x.sd,x.ms⟩ : Oc)).gt) (v3:=O U ((⟨aj x.t st va,aL st pe (n - va) x.o,x.gt,x.sd,x.ms⟩ : Oc)).sd) (v4:=O U ((⟨aj x.t st va,aL st pe (n - va) x.o,x.gt,x.sd,x.ms⟩ : Oc)).ms) Lr
 generalize dr W8 (w.heap.size+1+1) (F TA ((⟨aj x.t st va,aL st pe (n - va) x.o,x.gt,x.sd,x.ms⟩ : Oc)).t.length tc) (F OA ((⟨aj x.t st va,aL st pe (n - va) x.o,x.gt,x.sd,x.ms⟩ : Oc)).o.length oc) (O U ((⟨aj x.t st va,aL st pe (n - va) x.o,x.gt,x.sd,x.ms⟩ : Oc)).gt) (O U ((⟨aj x.t st va,aL st pe (n - va) x.o,x.gt,x.sd,x.ms⟩ : Oc)).sd) (O U ((⟨aj x.t st va,aL st pe (n - va) x.o,x.gt,x.sd,x.ms⟩ : Oc)).ms)=W9 at bz HT HO PR ⊢
 obtain ⟨k0,k1,k2,k3,k4⟩:=cells5 PR
 clear h1 h2 Lr xm xv PR
 go_wp2
 refine bodyPost_ret (v:=.tuple #[.agg #[F TA ((⟨aj x.t st va,aL st pe (n - va) x.o,x.gt,x.sd,x.ms⟩ : Oc)).t.length tc,F OA ((⟨aj x.t st va,aL st pe (n - va) x.o,x.gt,x.sd,x.ms⟩ : Oc)).o.length oc,O U ((⟨aj x.t st va,aL st pe (n - va) x.o,x.gt,x.sd,x.ms⟩ : Oc)).gt,O U ((⟨aj x.t st va,aL st pe (n - va) x.o,x.gt,x.sd,x.ms⟩ : Oc)).sd,O U ((⟨aj x.t st va,aL st pe (n - va) x.o,x.gt,x.sd,x.ms⟩ : Oc)).ms],.bool (decide (va≤n))]) (by simp [results,Tryz.results175,go_sem, *]) rfl ?_
 exact ⟨TA,tc,OA,oc,rfl,HT.out,HO.out,bz⟩
set_option maxRecDepth 100000 in
theorem q8 (x:aN) (st pe va:Int) (w:World) (h:aQ w w.heap.size x) (G:bK x) (xA:x.t.length≤x.tc) (xM:1≤st∧st≤99) (yE:1≤pe∧pe≤999) :
  Calls xi 175 #[x.val,.agg #[O U 5,O U st,O U pe,O U va]] w (dz w ((⟨x.t,aL st pe 0 x.o,x.gt,x.sd,x.ms+aO st pe x.o⟩ : Oc),decide (0 < aO st pe x.o))):=by
 have L1:=((ai.new w 40 #[F x.TA x.t.length x.tc,F x.OA x.o.length x.oc,O U x.gt,O U x.sd,O U x.ms]).alloc (.cells #[O U 5,O U st,O U pe,O U va] 112)).alloc (.cells #[F none 0 0,F none 0 0,O U 0,O U 0,O U 0] 40)
 have L2:=(ai.new1 w (.cells #[F x.TA x.t.length x.tc,F x.OA x.o.length x.oc,O U x.gt,O U x.sd,O U x.ms] 40) 112 #[O U 5,O U st,O U pe,O U va]).alloc (.cells #[F none 0 0,F none 0 0,O U 0,O U 0,O U 0] 40)
 have L3:=ai.new2 w (.cells #[F x.TA x.t.length x.tc,F x.OA x.o.length x.oc,O U x.gt,O U x.sd,O U x.ms] 40) (.cells #[O U 5,O U st,O U pe,O U va] 112) 40 #[F none 0 0,F none 0 0,O U 0,O U 0,O U 0]
 have b1:=bZ w (.cells #[F x.TA x.t.length x.tc,F x.OA x.o.length x.oc,O U x.gt,O U x.sd,O U x.ms] 40)
 have b2:=b1.alloc b1.size (.cells #[O U 5,O U st,O U pe,O U va] 112)
 have b3:=b2.alloc b2.size (.cells #[F none 0 0,F none 0 0,O U 0,O U 0,O U 0] 40)
 have Sx:=G.small
 have CC:=G.tl
 have CD:=G.ol
 have AQ:=G.tcs
 obtain ⟨m1,m2⟩:=G.m
 obtain ⟨g1,g2⟩:=G.s
 obtain ⟨n1,n2⟩:=G.at_bd st pe
 obtain ⟨n,hn⟩ : ∃ n,aO st pe x.o=n:=⟨_,rfl⟩
 rw [hn] at n1 n2 ⊢
 clear b1 b2 G
 go_enter Tryz.func175,Tryz.ntmps175
 go_wp2_with fail
 generalize (((w.alloc (.cells #[F x.TA x.t.length x.tc,F x.OA x.o.length x.oc,O U x.gt,O U x.sd,O U x.ms] 40)).alloc (.cells #[O U 5,O U st,O U pe,O U va] 112)).alloc (.cells #[F none 0 0,F none 0 0,O U 0,O U 0,O U 0] 40))=W at L1 L2 L3 b3 ⊢
 have hR:=h.up b3 nR
 refine (gE x st pe W hR).mono ?_
 rintro e W1 ⟨rfl,xp⟩
 rw [hn]
 have yV:=hR.then xp
 have x9:=L1.below xp L1.lt
 have xU:=L2.below xp L2.lt
 have yi:=L3.below xp L3.lt
 have b4:=b3.trans (xp.mono b3.size)
 have zr:w.heap.size≤W1.heap.size:=b4.size
 have hn:=jZ hn
 clear L1 L2 L3 b3 xp hR h
 obtain ⟨c0,c1,c2,c3,c4⟩:=cells5 x9
 obtain ⟨s0,s1,s2,s3⟩:=cells4 xU
 have i4:IntKind.i64.wrap (x.ms+n)=x.ms+n:=IntWalk.i64_in _ oM
 go_wp2_with fail
 refine (wV x st pe (0) W1 yV Sx xM yE).mono ?_
 rintro e W2 ⟨v2,rfl,⟨TA,tc,OA,oc,xV,hT,hO⟩,xn⟩
 have xV:v2=.agg #[F TA x.t.length tc,F OA (aL st pe (0) x.o).length oc,O U x.gt,O U x.sd,O U x.ms]:=xV
 subst xV
 simp only at hT hO
 have xo:=(Below.refl W2.heap.size W2).alloc nR (.cells #[F TA x.t.length tc,F OA (aL st pe (0) x.o).length oc,O U x.gt,O U x.sd,O U x.ms] 40)
 have zg:=(x9.below xn x9.lt).below xo (jL x9.lt xn.size)
 have zh:=(xU.below xn xU.lt).below xo (jL xU.lt xn.size)
 have zw:=(yi.below xn yi.lt).below xo (jL yi.lt xn.size)
 have P:=ai.new W2 40 #[F TA x.t.length tc,F OA (aL st pe (0) x.o).length oc,O U x.gt,O U x.sd,O U x.ms]
 have ye:=ag (ac hT xo) zr
 have xN:=ag (ac hO xo) zr
 have b5:=b4.trans ((av xn xo).mono b4.size)
 have BK:=(yV.then xn).then xo
 have yF:w.heap.size+1+1 < W2.heap.size:=jL yi.lt xn.size
 clear c0 c1 c2 c3 c4 s0 s1 s2 s3
 obtain ⟨W3,yh⟩ : ∃ W3,W2.alloc (.cells #[F TA x.t.length tc,F OA (aL st pe (0) x.o).length oc,O U x.gt,O U x.sd,O U x.ms] 40)=W3:=⟨_,rfl⟩
 rw [yh] at zg zh zw P ye xN b5 BK
 generalize ym:W2.heap.size=g2 at P yF
 obtain ⟨c0,c1,c2,c3,c4⟩:=cells5 zg
 obtain ⟨s0,s1,s2,s3⟩:=cells4 zh
 obtain ⟨p0,p1,p2,p3,p4⟩:=cells5 P
 obtain ⟨pf0,pf1,pf2,pf3,pf4⟩:=frz5 P
 have P4:=P.set 4 (O U (x.ms+n))
 have yR:=zg.other (p:=⟨g2,4,none⟩) (by simp; omega) (O U (x.ms+n))
 have zn:=zh.other (p:=⟨g2,4,none⟩) (by simp; omega) (O U (x.ms+n))
 have yW:=zw.other (p:=⟨g2,4,none⟩) (by simp; omega) (O U (x.ms+n))
 have xQ:=am ye P cd 4 (O U (x.ms+n))
 have xL:=am xN P ch 4 (O U (x.ms+n))
 have b6:=b5.setCell (p:=⟨g2,4,none⟩) (show w.heap.size≤g2 by omega) (O U (x.ms+n))
 simp only [List.set_cons_zero,List.set_cons_succ] at P4
 obtain ⟨W4,yx⟩ : ∃ W4,W3.setCell ⟨g2,4,none⟩ (O U (x.ms+n))=W4:=⟨_,rfl⟩
 rw [yx] at P4 yR zn yW xQ xL b6
 clear BK xn xo hT hO x9 xU yi b4 yV
 obtain ⟨k0,k1,k2,k3,k4⟩:=cells5 P4
 obtain ⟨z0,z1,z2,z3,z4⟩:=cells5 yW
 obtain ⟨f0,f1,f2,f3,f4⟩:=frz5 yW
 have bz:=b6.trans (ci (v0:=F TA x.t.length tc) (v1:=F OA (aL st pe (0) x.o).length oc) (v2:=O U x.gt) (v3:=O U x.sd) (v4:=O U (x.ms+n)) yW (show w.heap.size≤w.heap.size+1+1 by omega))
 have HT:=jZ (aR (v0:=F TA x.t.length tc) (v1:=F OA (aL st pe (0) x.o).length oc) (v2:=O U x.gt) (v3:=O U x.sd) (v4:=O U (x.ms+n)) yW xQ cd)
 have HO:=jZ (aR (v0:=F TA x.t.length tc) (v1:=F OA (aL st pe (0) x.o).length oc) (v2:=O U x.gt) (v3:=O U x.sd) (v4:=O U (x.ms+n)) yW xL ch)
 go_wp2_with (first | (rw [yh]; clear yh; rw [ym]) | (rw [yx]; clear yx))
 clear c0 c1 c2 c3 c4 s0 s1 s2 s3 p0 p1 p2 p3 p4 pf0 pf1 pf2 pf3 pf4
 refine bodyPost_ret (v:=.tuple #[.agg #[F TA x.t.length tc,F OA (aL st pe (0) x.o).length oc,O U x.gt,O U x.sd,O U (x.ms+n)],.bool (decide (0 < n))]) (by simp [results,Tryz.results175,go_sem, *]) rfl ?_
 exact ⟨TA,tc,OA,oc,rfl,HT.out,HO.out,bz⟩
set_option maxRecDepth 100000 in
theorem rc (x:aN) (st pe va:Int) (w:World) (h:aQ w w.heap.size x) (G:bK x) (xA:x.t.length≤x.tc) (xM:1≤st∧st≤99) (yE:1≤pe∧pe≤999) (zR:1≤va∧va≤999) :
  Calls xi 175 #[x.val,.agg #[O U 6,O U st,O U pe,O U va]] w (dz w ((⟨x.t,aL st va (aO st va (aL st pe 0 x.o)+aO st pe x.o) (aL st pe 0 x.o),x.gt,x.sd,x.ms⟩ : Oc),decide (0 < aO st pe x.o) && decide (va ≠ pe))):=by
 have L1:=((ai.new w 40 #[F x.TA x.t.length x.tc,F x.OA x.o.length x.oc,O U x.gt,O U x.sd,O U x.ms]).alloc (.cells #[O U 6,O U st,O U pe,O U va] 112)).alloc (.cells #[F none 0 0,F none 0 0,O U 0,O U 0,O U 0] 40)
 have L2:=(ai.new1 w (.cells #[F x.TA x.t.length x.tc,F x.OA x.o.length x.oc,O U x.gt,O U x.sd,O U x.ms] 40) 112 #[O U 6,O U st,O U pe,O U va]).alloc (.cells #[F none 0 0,F none 0 0,O U 0,O U 0,O U 0] 40)
 have L3:=ai.new2 w (.cells #[F x.TA x.t.length x.tc,F x.OA x.o.length x.oc,O U x.gt,O U x.sd,O U x.ms] 40) (.cells #[O U 6,O U st,O U pe,O U va] 112) 40 #[F none 0 0,F none 0 0,O U 0,O U 0,O U 0]
 have b1:=bZ w (.cells #[F x.TA x.t.length x.tc,F x.OA x.o.length x.oc,O U x.gt,O U x.sd,O U x.ms] 40)
 have b2:=b1.alloc b1.size (.cells #[O U 6,O U st,O U pe,O U va] 112)
 have b3:=b2.alloc b2.size (.cells #[F none 0 0,F none 0 0,O U 0,O U 0,O U 0] 40)
 have Sx:=G.small
 have CC:=G.tl
 have CD:=G.ol
 have AQ:=G.tcs
 obtain ⟨m1,m2⟩:=G.m
 obtain ⟨g1,g2⟩:=G.s
 obtain ⟨n1,n2⟩:=G.at_bd st pe
 obtain ⟨m,hm⟩ : ∃ m,aO st va (aL st pe 0 x.o)=m:=⟨_,rfl⟩
 have ML:0≤m∧m≤9999:=by rw [← hm]; exact G.move_bd st pe va
 rw [hm]
 have HM:=jZ hm; clear hm
 obtain ⟨q1,q2⟩:=ML
 obtain ⟨n,hn⟩ : ∃ n,aO st pe x.o=n:=⟨_,rfl⟩
 rw [hn] at n1 n2 ⊢
 clear b1 b2 G
 go_enter Tryz.func175,Tryz.ntmps175
 go_wp2_with fail
 generalize (((w.alloc (.cells #[F x.TA x.t.length x.tc,F x.OA x.o.length x.oc,O U x.gt,O U x.sd,O U x.ms] 40)).alloc (.cells #[O U 6,O U st,O U pe,O U va] 112)).alloc (.cells #[F none 0 0,F none 0 0,O U 0,O U 0,O U 0] 40))=W at L1 L2 L3 b3 ⊢
 have hR:=h.up b3 nR
 refine (gE x st pe W hR).mono ?_
 rintro e W1 ⟨rfl,xp⟩
 rw [hn]
 have yV:=hR.then xp
 have x9:=L1.below xp L1.lt
 have xU:=L2.below xp L2.lt
 have yi:=L3.below xp L3.lt
 have b4:=b3.trans (xp.mono b3.size)
 have zr:w.heap.size≤W1.heap.size:=b4.size
 have hn:=jZ hn
 clear L1 L2 L3 b3 xp hR h
 obtain ⟨c0,c1,c2,c3,c4⟩:=cells5 x9
 obtain ⟨s0,s1,s2,s3⟩:=cells4 xU
 have S1:kX (⟨x.t,aL st pe 0 x.o,x.gt,x.sd,x.ms⟩ : Oc):=Sx.at xM yE (by show x.o.length≤100; omega)
 go_wp2_with fail
 refine (wV x st pe (0) W1 yV Sx xM yE).mono ?_
 rintro e W2 ⟨v2,rfl,⟨TA,tc,OA,oc,xV,hT,hO⟩,xn⟩
 have xV:v2=.agg #[F TA x.t.length tc,F OA (aL st pe (0) x.o).length oc,O U x.gt,O U x.sd,O U x.ms]:=xV
 subst xV
 simp only at hT hO
 have xo:=(Below.refl W2.heap.size W2).alloc nR (.cells #[F TA x.t.length tc,F OA (aL st pe (0) x.o).length oc,O U x.gt,O U x.sd,O U x.ms] 40)
 have zg:=(x9.below xn x9.lt).below xo (jL x9.lt xn.size)
 have zh:=(xU.below xn xU.lt).below xo (jL xU.lt xn.size)
 have zw:=(yi.below xn yi.lt).below xo (jL yi.lt xn.size)
 have P:=ai.new W2 40 #[F TA x.t.length tc,F OA (aL st pe (0) x.o).length oc,O U x.gt,O U x.sd,O U x.ms]
 have ye:=ag (ac hT xo) zr
 have xN:=ag (ac hO xo) zr
 have b5:=b4.trans ((av xn xo).mono b4.size)
 have BK:=(yV.then xn).then xo
 have yF:w.heap.size+1+1 < W2.heap.size:=jL yi.lt xn.size
 clear c0 c1 c2 c3 c4 s0 s1 s2 s3
 obtain ⟨W3,yh⟩ : ∃ W3,W2.alloc (.cells #[F TA x.t.length tc,F OA (aL st pe (0) x.o).length oc,O U x.gt,O U x.sd,O U x.ms] 40)=W3:=⟨_,rfl⟩
 rw [yh] at zg zh zw P ye xN b5 BK
 generalize ym:W2.heap.size=g2 at P yF
 obtain ⟨c0,c1,c2,c3,c4⟩:=cells5 zg
 obtain ⟨s0,s1,s2,s3⟩:=cells4 zh
 obtain ⟨p0,p1,p2,p3,p4⟩:=cells5 P
 obtain ⟨pf0,pf1,pf2,pf3,pf4⟩:=frz5 P
 clear xn xo hT hO x9 xU yi b4 yV
 go_wp2_with (rw [yh]; clear yh; rw [ym])
 clear c0 c1 c2 c3 c4 s0 s1 s2 s3 p0 p1 p2 p3 p4 pf0 pf1 pf2 pf3 pf4
 obtain ⟨b,BO⟩ : ∃ b,decide (0 < n)=b:=⟨_,rfl⟩
 have DS:=jZ BO; clear BO
 obtain ⟨D1,zt⟩ : ∃ D:World→Prop,D=(fun W9=>∃ W8 TA tc OA oc,Below W3.heap.size W3 W8∧W8.ownsRow w.heap.size 104 2 (F TA ((⟨x.t,aL st va (m+n) (aL st pe 0 x.o),x.gt,x.sd,x.ms⟩ : Oc)).t.length tc) ((⟨x.t,aL st va (m+n) (aL st pe 0 x.o),x.gt,x.sd,x.ms⟩ : Oc)).t.length (((⟨x.t,aL st va (m+n) (aL st pe 0 x.o),x.gt,x.sd,x.ms⟩ : Oc)).t.flatMap ar.enc)∧W8.ownsRow w.heap.size 147 3 (F OA ((⟨x.t,aL st va (m+n) (aL st pe 0 x.o),x.gt,x.sd,x.ms⟩ : Oc)).o.length oc) ((⟨x.t,aL st va (m+n) (aL st pe 0 x.o),x.gt,x.sd,x.ms⟩ : Oc)).o.length (((⟨x.t,aL st va (m+n) (aL st pe 0 x.o),x.gt,x.sd,x.ms⟩ : Oc)).o.flatMap ae.enc)∧W9=dr W8 (w.heap.size+1+1) (F TA ((⟨x.t,aL st va (m+n) (aL st pe 0 x.o),x.gt,x.sd,x.ms⟩ : Oc)).t.length tc) (F OA ((⟨x.t,aL st va (m+n) (aL st pe 0 x.o),x.gt,x.sd,x.ms⟩ : Oc)).o.length oc) (O U ((⟨x.t,aL st va (m+n) (aL st pe 0 x.o),x.gt,x.sd,x.ms⟩ : Oc)).gt) (O U ((⟨x.t,aL st va (m+n) (aL st pe 0 x.o),x.gt,x.sd,x.ms⟩ : Oc)).sd) (O U ((⟨x.t,aL st va (m+n) (aL st pe 0 x.o),x.gt,x.sd,x.ms⟩ : Oc)).ms)):=⟨_,rfl⟩
 have Do:∀ W,D1 W→∃ W8 v0 v1 v2 v3 v4,Below W3.heap.size W3 W8∧W=dr W8 (w.heap.size+1+1) v0 v1 v2 v3 v4:=by
  rw [zt]
  rintro _ ⟨W8,TA,tc,OA,oc,hq,_,_,e⟩
  exact ⟨W8,_,_,_,_,_,hq,e⟩
 have Aa:=jZ zt; clear zt
 refine al (Sw 23 (fun W9=>Below W3.heap.size W3 W9) D1) (fun i w1 w2=>i ∉ [23]→Below w1.heap.size w1 w2) kZ kZ kZ (Sw.start jB.drew) ?_
 simp only [ax,Act.put,sA,gs0,gs1,Nat.zero_add,Nat.reduceAdd]
 refine aa _ (vb0C5 P) ?_
 refine aa _ vb0 ?_
 refine aa _ (vb1c1 1 zh 1) ?_
 refine aa _ vb0 ?_
 refine aa _ (vb1c1 3 zh 3) ?_
 refine aa _ (vb0C5 P) ?_
 refine aa _ vb0 ?_
 refine aa _ (vb1c1 6 zh 1) ?_
 refine aa _ vb0 ?_
 refine aa _ (vb1c1 8 zh 3) ?_
 apply aa
 case h1 =>
  intro vs L9 w9 xl xj hB K9 xk
  replace xj:=sb xj xl
  have d5:=fe hB 5
  have d7:=fe hB 7
  have d9:=fe hB 9
  simp only [d5,d7,d9] at xk ⊢
  simp only [Act.put,sA,gs0,gs1] at xk
  go_simp
  refine (show Calls _ _ _ _ (fun e w'=>e=.returned (O U m)∧Below w9.heap.size w9 w') from by rw [← HM.out]; exact xf st va (show fk w9 w.heap.size (⟨x.t,aL st pe 0 x.o,x.gt,x.sd,x.ms⟩ : Oc) _ from ⟨TA,tc,OA,oc,rfl,ac ye xj,ac xN xj⟩)).mono ?_
  rintro en w8 ⟨rfl,xm⟩
  exact xk _ _ rfl (Sw.stay xl kZ dD (xj.trans (xm.mono xj.size))) (fun _=>xm)
 refine aa _ vb0 ?_
 refine aa _ (vb2i 10 11 (show IntKind.i64.wrap (m+n)=m+n from IntWalk.i64_in _ oM)) ?_
 refine af [23] (fun v w9=>fk w9 w.heap.size (⟨x.t,aL st va (m+n) (aL st pe 0 x.o),x.gt,x.sd,x.ms⟩ : Oc) v) ?sv13 (fun vs L9 w9 xl xj hB K9 xk=>?hv13) ?rv13
 case sv13 =>
  intro i9 yg hb9 ha9 v w1 w2 hv xJ
  have hb:=xJ (fun hm=>by
   simp only [mC,mN,oF] at hm hb9
   subst hm
   ·exact hb9 sP)
  exact hv.below hb
 case hv13 =>
  replace xj:=sb xj xl
  have d0:=fe hB 0
  have d2:=fe hB 2
  have d4:=fe hB 4
  have d12:=fe hB 12
  simp only [d0,d2,d4,d12] at xk ⊢
  simp only [Act.put,sA,gs0,gs1] at xk
  have zr:w.heap.size≤W3.heap.size:=b5.size
  go_simp
  refine (xe st va (m+n) (show fk w9 w.heap.size (⟨x.t,aL st pe 0 x.o,x.gt,x.sd,x.ms⟩ : Oc) _ from ⟨TA,tc,OA,oc,rfl,ac ye xj,ac xN xj⟩) S1 xM zR).mono ?_
  rintro en w8 ⟨v8,rfl,Bs,xm⟩
  exact xk _ _ _ rfl (Bs.lower (jT zr xj.size)) (Sw.stay xl kZ dD (xj.trans (xm.mono xj.size))) (fun _=>xm)
 refine aa _ vb0 ?_
 refine aa (.bool b) (fun vs L9 w9 xl xj hB K9 xk=>?hv15) ?rv15
 case hv15 =>
  replace xj:=sb xj xl
  have d14:=fe hB 14
  simp only [d14] at xk ⊢
  go_simp
  rw [DS.out]
  exact xk _ _ rfl (sy xl xj) bR
 refine aa _ (vb1 15) ?_
 refine af [] (fun v _=>b=true→v=.pointer (some ⟨w.heap.size+1,3,none⟩)) ?sv17 (fun vs L9 w9 xl xj hB K9 xk=>?hv17) ?rv17
 case sv17 =>
  intro i9 yg hb9 ha9 v w1 w2 hv xJ
  exact hv
 case hv17 =>
  have zv:=jZ xj
  have dg:=fe hB 16
  simp only [dg] at xk ⊢
  clear xj
  cases b with
  | false =>
   go_simp
   exact xk _ undef _ rfl (fun hq=>by cases hq) (Sw.both dD (fun h=>h) (fun h=>h) zv.out) bR
  | true =>
   go_simp
   exact xk _ _ _ rfl (fun _=>rfl) (Sw.both dD (fun h=>h) (fun h=>h) zv.out) bR
 refine af [] (fun v _=>b=true→v=O U va) ?sv18 (fun vs L9 w9 xl xj hB K9 xk=>?hv18) ?rv18
 case sv18 =>
  intro i9 yg hb9 ha9 v w1 w2 hv xJ
  exact hv
 case hv18 =>
  have zv:=jZ xj
  have dg:=fe hB 16
  simp only [dg] at xk ⊢
  have q0:w9.cell? ⟨w.heap.size+1,3,none⟩=some (O U va):=(xj.lies Do zh oM).cell 3
  clear xj
  cases b with
  | false =>
   go_simp
   exact xk _ undef _ rfl (fun hq=>by cases hq) (Sw.both dD (fun h=>h) (fun h=>h) zv.out) bR
  | true =>
   have d17:=hB 17 _ kZ kZ rfl dD rfl
   simp only [d17] at xk ⊢
   go_simp
   exact xk _ _ _ rfl (fun _=>rfl) (Sw.both dD (fun h=>h) (fun h=>h) zv.out) bR
 refine af [] (fun v _=>b=true→v=.pointer (some ⟨w.heap.size+1,2,none⟩)) ?sv19 (fun vs L9 w9 xl xj hB K9 xk=>?hv19) ?rv19
 case sv19 =>
  intro i9 yg hb9 ha9 v w1 w2 hv xJ
  exact hv
 case hv19 =>
  have zv:=jZ xj
  have dg:=fe hB 16
  simp only [dg] at xk ⊢
  clear xj
  cases b with
  | false =>
   go_simp
   exact xk _ undef _ rfl (fun hq=>by cases hq) (Sw.both dD (fun h=>h) (fun h=>h) zv.out) bR
  | true =>
   go_simp
   exact xk _ _ _ rfl (fun _=>rfl) (Sw.both dD (fun h=>h) (fun h=>h) zv.out) bR
 refine af [] (fun v _=>b=true→v=O U pe) ?sv20 (fun vs L9 w9 xl xj hB K9 xk=>?hv20) ?rv20
 case sv20 =>
  intro i9 yg hb9 ha9 v w1 w2 hv xJ
  exact hv
 case hv20 =>
  have zv:=jZ xj
  have dg:=fe hB 16
  simp only [dg] at xk ⊢
  have q0:w9.cell? ⟨w.heap.size+1,2,none⟩=some (O U pe):=(xj.lies Do zh oM).cell 2
  clear xj
  cases b with
  | false =>
   go_simp
   exact xk _ undef _ rfl (fun hq=>by cases hq) (Sw.both dD (fun h=>h) (fun h=>h) zv.out) bR
  | true =>
   have d19:=hB 19 _ kZ kZ rfl dD rfl
   simp only [d19] at xk ⊢
   go_simp
   exact xk _ _ _ rfl (fun _=>rfl) (Sw.both dD (fun h=>h) (fun h=>h) zv.out) bR
 refine af [] (fun v _=>b=true→v=.bool (va != pe)) ?sv21 (fun vs L9 w9 xl xj hB K9 xk=>?hv21) ?rv21
 case sv21 =>
  intro i9 yg hb9 ha9 v w1 w2 hv xJ
  exact hv
 case hv21 =>
  have zv:=jZ xj
  have dg:=fe hB 16
  simp only [dg] at xk ⊢
  clear xj
  cases b with
  | false =>
   go_simp
   exact xk _ undef _ rfl (fun hq=>by cases hq) (Sw.both dD (fun h=>h) (fun h=>h) zv.out) bR
  | true =>
   have d18:=hB 18 _ kZ kZ rfl dD rfl
   have d20:=hB 20 _ kZ kZ rfl dD rfl
   simp only [d18,d20] at xk ⊢
   go_simp
   exact xk _ _ _ rfl (fun _=>rfl) (Sw.both dD (fun h=>h) (fun h=>h) zv.out) bR
 refine aa (.bool (b && (va != pe))) (fun vs L9 w9 xl xj hB K9 xk=>?hv22) ?rv22
 case hv22 =>
  have d16:=fe hB 16
  simp only [d16] at xk ⊢
  have zv:=jZ xj
  clear xj
  cases b with
  | false =>
   go_simp
   exact xk _ _ rfl (Sw.both dD (fun h=>h) (fun h=>h) zv.out) bR
  | true =>
   have d21:=hB 21 _ kZ kZ rfl dD rfl
   simp only [d21] at xk ⊢
   go_simp
   exact xk _ _ rfl (Sw.both dD (fun h=>h) (fun h=>h) zv.out) bR
 refine aa (undef) (fun vs L9 w9 xl xj hB K9 xk=>?hv23) ?rv23
 case hv23 =>
  replace xj:=xj.here xl
  obtain ⟨TA,tc,OA,oc,e15,h1,h2⟩:=fs hB 13
  simp only [e15] at xk ⊢
  have Lr:=zw.below xj zw.lt
  obtain ⟨z0,z1,z2,z3,z4⟩:=cells5 Lr
  obtain ⟨f0,f1,f2,f3,f4⟩:=frz5 Lr
  have h1:=jZ h1
  have h2:=jZ h2
  clear Lr
  go_simp
  exact xk _ _ rfl (Sw.turn (by rw [Aa.out]; exact ⟨w9,TA,tc,OA,oc,xj,h1.out,h2.out,rfl⟩)) nq
 refine aa _ (va1 22) ?_
 refine au fun vs L9 w9 xv xj hB=>?_
 replace xj:=xj.done xv dD
 have dl:=ah.eq (hB 24 _ rfl rfl dD)
 simp only [dl]
 clear hB dl
 rw [Aa.out] at xj
 obtain ⟨W8,TA,tc,OA,oc,xm,h1,h2,rfl⟩:=xj
 have Lr:=zw.below xm zw.lt
 have bz:=(b5.trans (xm.mono b5.size)).trans (ci (v0:=F TA ((⟨x.t,aL st va (m+n) (aL st pe 0 x.o),x.gt,x.sd,x.ms⟩ : Oc)).t.length tc) (v1:=F OA ((⟨x.t,aL st va (m+n) (aL st pe 0 x.o),x.gt,x.sd,x.ms⟩ : Oc)).o.length oc) (v2:=O U ((⟨x.t,aL st va (m+n) (aL st pe 0 x.o),x.gt,x.sd,x.ms⟩ : Oc)).gt) (v3:=O U ((⟨x.t,aL st va (m+n) (aL st pe 0 x.o),x.gt,x.sd,x.ms⟩ : Oc)).sd) (v4:=O U ((⟨x.t,aL st va (m+n) (aL st pe 0 x.o),x.gt,x.sd,x.ms⟩ : Oc)).ms) Lr (show w.heap.size≤(w.heap.size+1+1) by omega))
 have HT:=jZ (aR (v0:=F TA ((⟨x.t,aL st va (m+n) (aL st pe 0 x.o),x.gt,x.sd,x.ms⟩ : Oc)).t.length tc) (v1:=F OA ((⟨x.t,aL st va (m+n) (aL st pe 0 x.o),x.gt,x.sd,x.ms⟩ : Oc)).o.length oc) (v2:=O U ((⟨x.t,aL st va (m+n) (aL st pe 0 x.o),x.gt,x.sd,x.ms⟩ : Oc)).gt) (v3:=O U ((⟨x.t,aL st va (m+n) (aL st pe 0 x.o),x.gt,x.sd,x.ms⟩ : Oc)).sd) (v4:=O U ((⟨x.t,aL st va (m+n) (aL st pe 0 x.o),x.gt,x.sd,x.ms⟩ : Oc)).ms) Lr h1 cd)
 have HO:=jZ (aR (v0:=F TA ((⟨x.t,aL st va (m+n) (aL st pe 0 x.o),x.gt,x.sd,x.ms⟩ : Oc)).t.length tc) (v1:=F OA ((⟨x.t,aL st va (m+n) (aL st pe 0 x.o),x.gt,x.sd,x.ms⟩ : Oc)).o.length oc) (v2:=O U ((⟨x.t,aL st va (m+n) (aL st pe 0 x.o),x.gt,x.sd,x.ms⟩ : Oc)).gt) (v3:=O U ((⟨x.t,aL st va (m+n) (aL st pe 0 x.o),x.gt,x.sd,x.ms⟩ : Oc)).sd) (v4:=O U ((⟨x.t,aL st va (m+n) (aL st pe 0 x.o),x.gt,x.sd,x.ms⟩ : Oc)).ms) Lr h2 ch)
 have PR:=eD (v0:=F TA ((⟨x.t,aL st va (m+n) (aL st pe 0 x.o),x.gt,x.sd,x.ms⟩ : Oc)).t.length tc) (v1:=F OA ((⟨x.t,aL st va (m+n) (aL st pe 0 x.o),x.gt,x.sd,x.ms⟩ : Oc)).o.length oc) (v2:=O U ((⟨x.t,aL st va (m+n) (aL st pe 0 x.o),x.gt,x.sd,x.ms⟩ : Oc)).gt) (v3:=O U ((⟨x.t,aL st va (m+n) (aL st pe 0 x.o),x.gt,x.sd,x.ms⟩ : Oc)).sd) (v4:=O U ((⟨x.t,aL st va (m+n) (aL st pe 0 x.o),x.gt,x.sd,x.ms⟩ : Oc)).ms) Lr
 generalize dr W8 (w.heap.size+1+1) (F TA ((⟨x.t,aL st va (m+n) (aL st pe 0 x.o),x.gt,x.sd,x.ms⟩ : Oc)).t.length tc) (F OA ((⟨x.t,aL st va (m+n) (aL st pe 0 x.o),x.gt,x.sd,x.ms⟩ : Oc)).o.length oc) (O U ((⟨x.t,aL st va (m+n) (aL st pe 0 x.o),x.gt,x.sd,x.ms⟩ : Oc)).gt) (O U ((⟨x.t,aL st va (m+n) (aL st pe 0 x.o),x.gt,x.sd,x.ms⟩ : Oc)).sd) (O U ((⟨x.t,aL st va (m+n) (aL st pe 0 x.o),x.gt,x.sd,x.ms⟩ : Oc)).ms)=W9 at bz HT HO PR ⊢
 obtain ⟨k0,k1,k2,k3,k4⟩:=cells5 PR
 clear h1 h2 Lr xm xv PR
 go_wp2
 refine bodyPost_ret (v:=.tuple #[.agg #[F TA ((⟨x.t,aL st va (m+n) (aL st pe 0 x.o),x.gt,x.sd,x.ms⟩ : Oc)).t.length tc,F OA ((⟨x.t,aL st va (m+n) (aL st pe 0 x.o),x.gt,x.sd,x.ms⟩ : Oc)).o.length oc,O U ((⟨x.t,aL st va (m+n) (aL st pe 0 x.o),x.gt,x.sd,x.ms⟩ : Oc)).gt,O U ((⟨x.t,aL st va (m+n) (aL st pe 0 x.o),x.gt,x.sd,x.ms⟩ : Oc)).sd,O U ((⟨x.t,aL st va (m+n) (aL st pe 0 x.o),x.gt,x.sd,x.ms⟩ : Oc)).ms],.bool (b && (va != pe))]) (by simp [results,Tryz.results175,go_sem, *]) rfl ?_
 rw [show (decide (0 < n) && !decide (va=pe))=(b && (va != pe)) from by rw [DS.out]; congr 1]
 exact ⟨TA,tc,OA,oc,rfl,HT.out,HO.out,bz⟩
set_option maxRecDepth 100000 in
theorem re (x:aN) (st pe va:Int) (w:World) (h:aQ w w.heap.size x) (G:bK x) (xA:x.t.length≤x.tc) (xM:1≤st∧st≤99) (yE:1≤pe∧pe≤999) (zR:1≤va∧va≤9999) :
  Calls xi 175 #[x.val,.agg #[O U 4,O U st,O U pe,O U va]] w (dz w ((⟨x.t,aL st pe (aO st pe x.o - va) x.o,x.gt,x.sd+va,x.ms⟩ : Oc),decide (va≤aO st pe x.o))):=by
 have L1:=((ai.new w 40 #[F x.TA x.t.length x.tc,F x.OA x.o.length x.oc,O U x.gt,O U x.sd,O U x.ms]).alloc (.cells #[O U 4,O U st,O U pe,O U va] 112)).alloc (.cells #[F none 0 0,F none 0 0,O U 0,O U 0,O U 0] 40)
 have L2:=(ai.new1 w (.cells #[F x.TA x.t.length x.tc,F x.OA x.o.length x.oc,O U x.gt,O U x.sd,O U x.ms] 40) 112 #[O U 4,O U st,O U pe,O U va]).alloc (.cells #[F none 0 0,F none 0 0,O U 0,O U 0,O U 0] 40)
 have L3:=ai.new2 w (.cells #[F x.TA x.t.length x.tc,F x.OA x.o.length x.oc,O U x.gt,O U x.sd,O U x.ms] 40) (.cells #[O U 4,O U st,O U pe,O U va] 112) 40 #[F none 0 0,F none 0 0,O U 0,O U 0,O U 0]
 have b1:=bZ w (.cells #[F x.TA x.t.length x.tc,F x.OA x.o.length x.oc,O U x.gt,O U x.sd,O U x.ms] 40)
 have b2:=b1.alloc b1.size (.cells #[O U 4,O U st,O U pe,O U va] 112)
 have b3:=b2.alloc b2.size (.cells #[F none 0 0,F none 0 0,O U 0,O U 0,O U 0] 40)
 have Sx:=G.small
 have CC:=G.tl
 have CD:=G.ol
 have AQ:=G.tcs
 obtain ⟨m1,m2⟩:=G.m
 obtain ⟨g1,g2⟩:=G.s
 obtain ⟨n1,n2⟩:=G.at_bd st pe
 obtain ⟨n,hn⟩ : ∃ n,aO st pe x.o=n:=⟨_,rfl⟩
 rw [hn] at n1 n2 ⊢
 clear b1 b2 G
 go_enter Tryz.func175,Tryz.ntmps175
 go_wp2_with fail
 generalize (((w.alloc (.cells #[F x.TA x.t.length x.tc,F x.OA x.o.length x.oc,O U x.gt,O U x.sd,O U x.ms] 40)).alloc (.cells #[O U 4,O U st,O U pe,O U va] 112)).alloc (.cells #[F none 0 0,F none 0 0,O U 0,O U 0,O U 0] 40))=W at L1 L2 L3 b3 ⊢
 have hR:=h.up b3 nR
 refine (gE x st pe W hR).mono ?_
 rintro e W1 ⟨rfl,xp⟩
 rw [hn]
 have yV:=hR.then xp
 have x9:=L1.below xp L1.lt
 have xU:=L2.below xp L2.lt
 have yi:=L3.below xp L3.lt
 have b4:=b3.trans (xp.mono b3.size)
 have zr:w.heap.size≤W1.heap.size:=b4.size
 have hn:=jZ hn
 clear L1 L2 L3 b3 xp hR h
 obtain ⟨c0,c1,c2,c3,c4⟩:=cells5 x9
 obtain ⟨s0,s1,s2,s3⟩:=cells4 xU
 obtain ⟨v1,v2⟩:=zR
 have i3:IntKind.i64.wrap (n - va)=n - va:=IntWalk.i64_in _ oM
 have i4:IntKind.i64.wrap (x.sd+va)=x.sd+va:=IntWalk.i64_in _ oM
 go_wp2_with fail
 refine (wV x st pe (n - va) W1 yV Sx xM yE).mono ?_
 rintro e W2 ⟨v2,rfl,⟨TA,tc,OA,oc,xV,hT,hO⟩,xn⟩
 have xV:v2=.agg #[F TA x.t.length tc,F OA (aL st pe (n - va) x.o).length oc,O U x.gt,O U x.sd,O U x.ms]:=xV
 subst xV
 simp only at hT hO
 have xo:=(Below.refl W2.heap.size W2).alloc nR (.cells #[F TA x.t.length tc,F OA (aL st pe (n - va) x.o).length oc,O U x.gt,O U x.sd,O U x.ms] 40)
 have zg:=(x9.below xn x9.lt).below xo (jL x9.lt xn.size)
 have zh:=(xU.below xn xU.lt).below xo (jL xU.lt xn.size)
 have zw:=(yi.below xn yi.lt).below xo (jL yi.lt xn.size)
 have P:=ai.new W2 40 #[F TA x.t.length tc,F OA (aL st pe (n - va) x.o).length oc,O U x.gt,O U x.sd,O U x.ms]
 have ye:=ag (ac hT xo) zr
 have xN:=ag (ac hO xo) zr
 have b5:=b4.trans ((av xn xo).mono b4.size)
 have BK:=(yV.then xn).then xo
 have yF:w.heap.size+1+1 < W2.heap.size:=jL yi.lt xn.size
 clear c0 c1 c2 c3 c4 s0 s1 s2 s3
 obtain ⟨W3,yh⟩ : ∃ W3,W2.alloc (.cells #[F TA x.t.length tc,F OA (aL st pe (n - va) x.o).length oc,O U x.gt,O U x.sd,O U x.ms] 40)=W3:=⟨_,rfl⟩
 rw [yh] at zg zh zw P ye xN b5 BK
 generalize ym:W2.heap.size=g2 at P yF
 obtain ⟨c0,c1,c2,c3,c4⟩:=cells5 zg
 obtain ⟨s0,s1,s2,s3⟩:=cells4 zh
 obtain ⟨p0,p1,p2,p3,p4⟩:=cells5 P
 obtain ⟨pf0,pf1,pf2,pf3,pf4⟩:=frz5 P
 have P4:=P.set 3 (O U (x.sd+va))
 have yR:=zg.other (p:=⟨g2,3,none⟩) (by simp; omega) (O U (x.sd+va))
 have zn:=zh.other (p:=⟨g2,3,none⟩) (by simp; omega) (O U (x.sd+va))
 have yW:=zw.other (p:=⟨g2,3,none⟩) (by simp; omega) (O U (x.sd+va))
 have xQ:=am ye P cd 3 (O U (x.sd+va))
 have xL:=am xN P ch 3 (O U (x.sd+va))
 have b6:=b5.setCell (p:=⟨g2,3,none⟩) (show w.heap.size≤g2 by omega) (O U (x.sd+va))
 simp only [List.set_cons_zero,List.set_cons_succ] at P4
 obtain ⟨W4,yx⟩ : ∃ W4,W3.setCell ⟨g2,3,none⟩ (O U (x.sd+va))=W4:=⟨_,rfl⟩
 rw [yx] at P4 yR zn yW xQ xL b6
 clear BK xn xo hT hO x9 xU yi b4 yV
 go_wp2_with (first | (rw [yh]; clear yh; rw [ym]) | (rw [yx]; clear yx))
 clear c0 c1 c2 c3 c4 s0 s1 s2 s3 p0 p1 p2 p3 p4 pf0 pf1 pf2 pf3 pf4
 obtain ⟨D1,zt⟩ : ∃ D:World→Prop,D=(fun W9=>∃ W8 TA tc OA oc,Below W4.heap.size W4 W8∧W8.ownsRow w.heap.size 104 2 (F TA ((⟨x.t,aL st pe (n - va) x.o,x.gt,x.sd+va,x.ms⟩ : Oc)).t.length tc) ((⟨x.t,aL st pe (n - va) x.o,x.gt,x.sd+va,x.ms⟩ : Oc)).t.length (((⟨x.t,aL st pe (n - va) x.o,x.gt,x.sd+va,x.ms⟩ : Oc)).t.flatMap ar.enc)∧W8.ownsRow w.heap.size 147 3 (F OA ((⟨x.t,aL st pe (n - va) x.o,x.gt,x.sd+va,x.ms⟩ : Oc)).o.length oc) ((⟨x.t,aL st pe (n - va) x.o,x.gt,x.sd+va,x.ms⟩ : Oc)).o.length (((⟨x.t,aL st pe (n - va) x.o,x.gt,x.sd+va,x.ms⟩ : Oc)).o.flatMap ae.enc)∧W9=dr W8 (w.heap.size+1+1) (F TA ((⟨x.t,aL st pe (n - va) x.o,x.gt,x.sd+va,x.ms⟩ : Oc)).t.length tc) (F OA ((⟨x.t,aL st pe (n - va) x.o,x.gt,x.sd+va,x.ms⟩ : Oc)).o.length oc) (O U ((⟨x.t,aL st pe (n - va) x.o,x.gt,x.sd+va,x.ms⟩ : Oc)).gt) (O U ((⟨x.t,aL st pe (n - va) x.o,x.gt,x.sd+va,x.ms⟩ : Oc)).sd) (O U ((⟨x.t,aL st pe (n - va) x.o,x.gt,x.sd+va,x.ms⟩ : Oc)).ms)):=⟨_,rfl⟩
 have Do:∀ W,D1 W→∃ W8 v0 v1 v2 v3 v4,Below W4.heap.size W4 W8∧W=dr W8 (w.heap.size+1+1) v0 v1 v2 v3 v4:=by
  rw [zt]
  rintro _ ⟨W8,TA,tc,OA,oc,hq,_,_,e⟩
  exact ⟨W8,_,_,_,_,_,hq,e⟩
 have Aa:=jZ zt; clear zt
 refine al (Sw 5 (fun W9=>Below W4.heap.size W4 W9) D1) (fun i w1 w2=>i ∉ [5]→Below w1.heap.size w1 w2) kZ kZ kZ (Sw.start jB.drew) ?_
 simp only [ax,Act.put,sA,gs0,gs1,Nat.zero_add,Nat.reduceAdd]
 refine aa _ (vb0C5 P4) ?_
 refine aa _ vo0 ?_
 refine aa _ vo0 ?_
 apply aa
 case h1 =>
  intro vs L9 w9 xl xj hB K9 xk
  have d2:=fe hB 2
  simp only [d2] at xk ⊢
  have q0:w9.cell? ⟨(w.heap.size+1),3,none⟩=some (O U va):=(xj.lies Do zn oM).cell 3
  simp only [Act.put,sA,gs0,gs1] at xk
  have zv:=jZ xj
  clear xj
  go_simp
  exact xk _ _ rfl (Sw.both dD (fun h=>h) (fun h=>h) zv.out) bR
 refine aa _ (vo2 1 3) ?_
 refine aa (undef) (fun vs L9 w9 xl xj hB K9 xk=>?hl5) ?rl5
 case hl5 =>
  replace xj:=xj.here xl
  have d0:=fe hB 0
  simp only [d0] at xk ⊢
  have Lr:=yW.below xj yW.lt
  obtain ⟨z0,z1,z2,z3,z4⟩:=cells5 Lr
  obtain ⟨f0,f1,f2,f3,f4⟩:=frz5 Lr
  clear Lr
  go_simp
  exact xk _ _ rfl (Sw.turn (by rw [Aa.out]; exact ⟨w9,TA,tc,OA,oc,xj,ac xQ xj,ac xL xj,rfl⟩)) nq
 refine aa _ (va1 4) ?_
 refine au fun vs L9 w9 xv xj hB=>?_
 replace xj:=xj.done xv dD
 have dl:=ah.eq (hB 6 _ rfl rfl dD)
 simp only [dl]
 clear hB dl
 rw [Aa.out] at xj
 obtain ⟨W8,TA,tc,OA,oc,xm,h1,h2,rfl⟩:=xj
 have Lr:=yW.below xm yW.lt
 have bz:=(b6.trans (xm.mono b6.size)).trans (ci (v0:=F TA ((⟨x.t,aL st pe (n - va) x.o,x.gt,x.sd+va,x.ms⟩ : Oc)).t.length tc) (v1:=F OA ((⟨x.t,aL st pe (n - va) x.o,x.gt,x.sd+va,x.ms⟩ : Oc)).o.length oc) (v2:=O U ((⟨x.t,aL st pe (n - va) x.o,x.gt,x.sd+va,x.ms⟩ : Oc)).gt) (v3:=O U ((⟨x.t,aL st pe (n - va) x.o,x.gt,x.sd+va,x.ms⟩ : Oc)).sd) (v4:=O U ((⟨x.t,aL st pe (n - va) x.o,x.gt,x.sd+va,x.ms⟩ : Oc)).ms) Lr (show w.heap.size≤(w.heap.size+1+1) by omega))
 have HT:=jZ (aR (v0:=F TA ((⟨x.t,aL st pe (n - va) x.o,x.gt,x.sd+va,x.ms⟩ : Oc)).t.length tc) (v1:=F OA ((⟨x.t,aL st pe (n - va) x.o,x.gt,x.sd+va,x.ms⟩ : Oc)).o.length oc) (v2:=O U ((⟨x.t,aL st pe (n - va) x.o,x.gt,x.sd+va,x.ms⟩ : Oc)).gt) (v3:=O U ((⟨x.t,aL st pe (n - va) x.o,x.gt,x.sd+va,x.ms⟩ : Oc)).sd) (v4:=O U ((⟨x.t,aL st pe (n - va) x.o,x.gt,x.sd+va,x.ms⟩ : Oc)).ms) Lr h1 cd)
 have HO:=jZ (aR (v0:=F TA ((⟨x.t,aL st pe (n - va) x.o,x.gt,x.sd+va,x.ms⟩ : Oc)).t.length tc) (v1:=F OA ((⟨x.t,aL st pe (n - va) x.o,x.gt,x.sd+va,x.ms⟩ : Oc)).o.length oc) (v2:=O U ((⟨x.t,aL st pe (n - va) x.o,x.gt,x.sd+va,x.ms⟩ : Oc)).gt) (v3:=O U ((⟨x.t,aL st pe (n - va) x.o,x.gt,x.sd+va,x.ms⟩ : Oc)).sd) (v4:=O U ((⟨x.t,aL st pe (n - va) x.o,x.gt,x.sd+va,x.ms⟩ : Oc)).ms) Lr h2 ch)
 have PR:=eD (v0:=F TA ((⟨x.t,aL st pe (n - va) x.o,x.gt,x.sd+va,x.ms⟩ : Oc)).t.length tc) (v1:=F OA ((⟨x.t,aL st pe (n - va) x.o,x.gt,x.sd+va,x.ms⟩ : Oc)).o.length oc) (v2:=O U ((⟨x.t,aL st pe (n - va) x.o,x.gt,x.sd+va,x.ms⟩ : Oc)).gt) (v3:=O U ((⟨x.t,aL st pe (n - va) x.o,x.gt,x.sd+va,x.ms⟩ : Oc)).sd) (v4:=O U ((⟨x.t,aL st pe (n - va) x.o,x.gt,x.sd+va,x.ms⟩ : Oc)).ms) Lr
 generalize dr W8 (w.heap.size+1+1) (F TA ((⟨x.t,aL st pe (n - va) x.o,x.gt,x.sd+va,x.ms⟩ : Oc)).t.length tc) (F OA ((⟨x.t,aL st pe (n - va) x.o,x.gt,x.sd+va,x.ms⟩ : Oc)).o.length oc) (O U ((⟨x.t,aL st pe (n - va) x.o,x.gt,x.sd+va,x.ms⟩ : Oc)).gt) (O U ((⟨x.t,aL st pe (n - va) x.o,x.gt,x.sd+va,x.ms⟩ : Oc)).sd) (O U ((⟨x.t,aL st pe (n - va) x.o,x.gt,x.sd+va,x.ms⟩ : Oc)).ms)=W9 at bz HT HO PR ⊢
 obtain ⟨k0,k1,k2,k3,k4⟩:=cells5 PR
 clear h1 h2 Lr xm xv PR
 go_wp2
 refine bodyPost_ret (v:=.tuple #[.agg #[F TA ((⟨x.t,aL st pe (n - va) x.o,x.gt,x.sd+va,x.ms⟩ : Oc)).t.length tc,F OA ((⟨x.t,aL st pe (n - va) x.o,x.gt,x.sd+va,x.ms⟩ : Oc)).o.length oc,O U ((⟨x.t,aL st pe (n - va) x.o,x.gt,x.sd+va,x.ms⟩ : Oc)).gt,O U ((⟨x.t,aL st pe (n - va) x.o,x.gt,x.sd+va,x.ms⟩ : Oc)).sd,O U ((⟨x.t,aL st pe (n - va) x.o,x.gt,x.sd+va,x.ms⟩ : Oc)).ms],.bool (decide (va≤n))]) (by simp [results,Tryz.results175,go_sem, *]) rfl ?_
 exact ⟨TA,tc,OA,oc,rfl,HT.out,HO.out,bz⟩
set_option maxRecDepth 100000 in
theorem rf (x:aN) (st pe va:Int) (xM:1≤st∧st≤99) (zR:1≤va∧va≤9999) (w:World) (h:aQ w w.heap.size x) (G:bK x) (xA:x.t.length≤x.tc) :
  Calls xi 127 #[x.val,.agg #[O U 1,O U st,O U pe,O U va]] w (dz w ((⟨aj x.t st va,x.o,x.gt+va,x.sd,x.ms⟩ : Oc),((⟨aj x.t st va,x.o,x.gt+va,x.sd,x.ms⟩ : Oc)).good)):=by
 have L1:=((ai.new w 40 #[F x.TA x.t.length x.tc,F x.OA x.o.length x.oc,O U x.gt,O U x.sd,O U x.ms]).alloc (.cells #[O U 1,O U st,O U pe,O U va] 112)).alloc (.cells #[F none 0 0,F none 0 0,O U 0,O U 0,O U 0] 40)
 have L2:=(ai.new1 w (.cells #[F x.TA x.t.length x.tc,F x.OA x.o.length x.oc,O U x.gt,O U x.sd,O U x.ms] 40) 112 #[O U 1,O U st,O U pe,O U va]).alloc (.cells #[F none 0 0,F none 0 0,O U 0,O U 0,O U 0] 40)
 have L3:=ai.new2 w (.cells #[F x.TA x.t.length x.tc,F x.OA x.o.length x.oc,O U x.gt,O U x.sd,O U x.ms] 40) (.cells #[O U 1,O U st,O U pe,O U va] 112) 40 #[F none 0 0,F none 0 0,O U 0,O U 0,O U 0]
 have b1:=bZ w (.cells #[F x.TA x.t.length x.tc,F x.OA x.o.length x.oc,O U x.gt,O U x.sd,O U x.ms] 40)
 have b2:=b1.alloc b1.size (.cells #[O U 1,O U st,O U pe,O U va] 112)
 have b3:=b2.alloc b2.size (.cells #[F none 0 0,F none 0 0,O U 0,O U 0,O U 0] 40)
 have Sx:=G.small
 have CC:=G.tl
 have CD:=G.ol
 have AQ:=G.tcs
 obtain ⟨m1,m2⟩:=G.m
 obtain ⟨g1,g2⟩:=G.s
 obtain ⟨o1,o2⟩:=G.g
 clear b1 b2 G
 obtain ⟨v1,v2⟩:=zR
 obtain ⟨gd,zz⟩ : ∃ gd,((⟨aj x.t st va,x.o,x.gt+va,x.sd,x.ms⟩ : Oc)).good=gd:=⟨_,rfl⟩
 rw [zz]
 have HG:=jZ zz; clear zz
 have i4:IntKind.i64.wrap (x.gt+va)=x.gt+va:=IntWalk.i64_in _ oM
 go_enter Tryz.func127,Tryz.ntmps127
 go_wp2_with fail
 generalize (((w.alloc (.cells #[F x.TA x.t.length x.tc,F x.OA x.o.length x.oc,O U x.gt,O U x.sd,O U x.ms] 40)).alloc (.cells #[O U 1,O U st,O U pe,O U va] 112)).alloc (.cells #[F none 0 0,F none 0 0,O U 0,O U 0,O U 0] 40))=W at L1 L2 L3 b3 ⊢
 have hR:=h.up b3 nR
 have yV:=hR
 have x9:=L1
 have xU:=L2
 have yi:=L3
 have b4:=b3
 have zr:w.heap.size≤W.heap.size:=b4.size
 clear L1 L2 L3 b3 hR h
 refine (wU x st va W yV Sx oM xA).mono ?_
 rintro e W2 ⟨v2,rfl,⟨TA,tc,OA,oc,xV,hT,hO⟩,xn⟩
 have xV:v2=.agg #[F TA (aj x.t st va).length tc,F OA x.o.length oc,O U x.gt,O U x.sd,O U x.ms]:=xV
 subst xV
 simp only at hT hO
 have xo:=(Below.refl W2.heap.size W2).alloc nR (.cells #[F TA (aj x.t st va).length tc,F OA x.o.length oc,O U x.gt,O U x.sd,O U x.ms] 40)
 have zg:=(x9.below xn x9.lt).below xo (jL x9.lt xn.size)
 have zh:=(xU.below xn xU.lt).below xo (jL xU.lt xn.size)
 have zw:=(yi.below xn yi.lt).below xo (jL yi.lt xn.size)
 have P:=ai.new W2 40 #[F TA (aj x.t st va).length tc,F OA x.o.length oc,O U x.gt,O U x.sd,O U x.ms]
 have ye:=ag (ac hT xo) zr
 have xN:=ag (ac hO xo) zr
 have b5:=b4.trans ((av xn xo).mono b4.size)
 have yF:w.heap.size+1+1 < W2.heap.size:=jL yi.lt xn.size
 obtain ⟨W3,yh⟩ : ∃ W3,W2.alloc (.cells #[F TA (aj x.t st va).length tc,F OA x.o.length oc,O U x.gt,O U x.sd,O U x.ms] 40)=W3:=⟨_,rfl⟩
 rw [yh] at zg zh zw P ye xN b5
 generalize ym:W2.heap.size=g2 at P yF
 obtain ⟨c0,c1,c2,c3,c4⟩:=cells5 zg
 obtain ⟨s0,s1,s2,s3⟩:=cells4 zh
 obtain ⟨p0,p1,p2,p3,p4⟩:=cells5 P
 obtain ⟨pf0,pf1,pf2,pf3,pf4⟩:=frz5 P
 have P4:=P.set 2 (O U (x.gt+va))
 have yR:=zg.other (p:=⟨g2,2,none⟩) (by simp; omega) (O U (x.gt+va))
 have zn:=zh.other (p:=⟨g2,2,none⟩) (by simp; omega) (O U (x.gt+va))
 have yW:=zw.other (p:=⟨g2,2,none⟩) (by simp; omega) (O U (x.gt+va))
 have xQ:=am ye P cd 2 (O U (x.gt+va))
 have xL:=am xN P ch 2 (O U (x.gt+va))
 have b6:=b5.setCell (p:=⟨g2,2,none⟩) (show w.heap.size≤g2 by omega) (O U (x.gt+va))
 simp only [List.set_cons_zero,List.set_cons_succ] at P4
 obtain ⟨W4,yx⟩ : ∃ W4,W3.setCell ⟨g2,2,none⟩ (O U (x.gt+va))=W4:=⟨_,rfl⟩
 rw [yx] at P4 yR zn yW xQ xL b6
 clear xn xo hT hO x9 xU yi b4 yV
 go_wp2_with (first | (rw [yh]; clear yh; rw [ym]) | (rw [yx]; clear yx))
 clear c0 c1 c2 c3 c4 s0 s1 s2 s3 p0 p1 p2 p3 p4 pf0 pf1 pf2 pf3 pf4
 obtain ⟨D1,zt⟩ : ∃ D:World→Prop,D=(fun W9=>∃ W8 TA tc OA oc,Below W4.heap.size W4 W8∧W8.ownsRow w.heap.size 104 2 (F TA ((⟨aj x.t st va,x.o,x.gt+va,x.sd,x.ms⟩ : Oc)).t.length tc) ((⟨aj x.t st va,x.o,x.gt+va,x.sd,x.ms⟩ : Oc)).t.length (((⟨aj x.t st va,x.o,x.gt+va,x.sd,x.ms⟩ : Oc)).t.flatMap ar.enc)∧W8.ownsRow w.heap.size 147 3 (F OA ((⟨aj x.t st va,x.o,x.gt+va,x.sd,x.ms⟩ : Oc)).o.length oc) ((⟨aj x.t st va,x.o,x.gt+va,x.sd,x.ms⟩ : Oc)).o.length (((⟨aj x.t st va,x.o,x.gt+va,x.sd,x.ms⟩ : Oc)).o.flatMap ae.enc)∧W9=dr W8 (w.heap.size+1+1) (F TA ((⟨aj x.t st va,x.o,x.gt+va,x.sd,x.ms⟩ : Oc)).t.length tc) (F OA ((⟨aj x.t st va,x.o,x.gt+va,x.sd,x.ms⟩ : Oc)).o.length oc) (O U ((⟨aj x.t st va,x.o,x.gt+va,x.sd,x.ms⟩ : Oc)).gt) (O U ((⟨aj x.t st va,x.o,x.gt+va,x.sd,x.ms⟩ : Oc)).sd) (O U ((⟨aj x.t st va,x.o,x.gt+va,x.sd,x.ms⟩ : Oc)).ms)):=⟨_,rfl⟩
 have Do:∀ W,D1 W→∃ W8 v0 v1 v2 v3 v4,Below W4.heap.size W4 W8∧W=dr W8 (w.heap.size+1+1) v0 v1 v2 v3 v4:=by
  rw [zt]
  rintro _ ⟨W8,TA,tc,OA,oc,hq,_,_,e⟩
  exact ⟨W8,_,_,_,_,_,hq,e⟩
 have Aa:=jZ zt; clear zt
 refine al (Sw 3 (fun W9=>Below W4.heap.size W4 W9) D1) (fun i w1 w2=>i ∉ [3]→Below w1.heap.size w1 w2) kZ kZ kZ (Sw.start jB.drew) ?_
 simp only [ax,Act.put,sA,gs0,gs1,Nat.zero_add,Nat.reduceAdd]
 refine aa _ (vb0C5 P4) ?_
 refine aa _ (vb0C5 P4) ?_
 apply aa
 case h1 =>
  intro vs L9 w9 xl xj hB K9 xk
  replace xj:=sb xj xl
  have d1:=fe hB 1
  simp only [d1] at xk ⊢
  simp only [Act.put,sA,gs0,gs1] at xk
  go_simp
  refine (show Calls _ _ _ _ (fun e w'=>e=.returned (.bool gd)∧Below w9.heap.size w9 w') from by rw [← HG.out]; exact vm (show fk w9 w.heap.size (⟨aj x.t st va,x.o,x.gt+va,x.sd,x.ms⟩ : Oc) _ from ⟨TA,tc,OA,oc,rfl,ac xQ xj,ac xL xj⟩)).mono ?_
  rintro en w8 ⟨rfl,xm⟩
  exact xk _ _ rfl (Sw.stay xl kZ dD (xj.trans (xm.mono xj.size))) (fun _=>xm)
 refine aa (undef) (fun vs L9 w9 xl xj hB K9 xk=>?hg3) ?rg3
 case hg3 =>
  replace xj:=xj.here xl
  have d0:=fe hB 0
  simp only [d0] at xk ⊢
  have Lr:=yW.below xj yW.lt
  obtain ⟨z0,z1,z2,z3,z4⟩:=cells5 Lr
  obtain ⟨f0,f1,f2,f3,f4⟩:=frz5 Lr
  clear Lr
  go_simp
  exact xk _ _ rfl (Sw.turn (by rw [Aa.out]; exact ⟨w9,TA,tc,OA,oc,xj,ac xQ xj,ac xL xj,rfl⟩)) nq
 refine aa _ (va1 2) ?_
 refine au fun vs L9 w9 xv xj hB=>?_
 replace xj:=xj.done xv dD
 have dl:=ah.eq (hB 4 _ rfl rfl dD)
 simp only [dl]
 clear hB dl
 rw [Aa.out] at xj
 obtain ⟨W8,TA,tc,OA,oc,xm,h1,h2,rfl⟩:=xj
 have Lr:=yW.below xm yW.lt
 have bz:=(b6.trans (xm.mono b6.size)).trans (ci (v0:=F TA ((⟨aj x.t st va,x.o,x.gt+va,x.sd,x.ms⟩ : Oc)).t.length tc) (v1:=F OA ((⟨aj x.t st va,x.o,x.gt+va,x.sd,x.ms⟩ : Oc)).o.length oc) (v2:=O U ((⟨aj x.t st va,x.o,x.gt+va,x.sd,x.ms⟩ : Oc)).gt) (v3:=O U ((⟨aj x.t st va,x.o,x.gt+va,x.sd,x.ms⟩ : Oc)).sd) (v4:=O U ((⟨aj x.t st va,x.o,x.gt+va,x.sd,x.ms⟩ : Oc)).ms) Lr (show w.heap.size≤(w.heap.size+1+1) by omega))
 have HT:=jZ (aR (v0:=F TA ((⟨aj x.t st va,x.o,x.gt+va,x.sd,x.ms⟩ : Oc)).t.length tc) (v1:=F OA ((⟨aj x.t st va,x.o,x.gt+va,x.sd,x.ms⟩ : Oc)).o.length oc) (v2:=O U ((⟨aj x.t st va,x.o,x.gt+va,x.sd,x.ms⟩ : Oc)).gt) (v3:=O U ((⟨aj x.t st va,x.o,x.gt+va,x.sd,x.ms⟩ : Oc)).sd) (v4:=O U ((⟨aj x.t st va,x.o,x.gt+va,x.sd,x.ms⟩ : Oc)).ms) Lr h1 cd)
 have HO:=jZ (aR (v0:=F TA ((⟨aj x.t st va,x.o,x.gt+va,x.sd,x.ms⟩ : Oc)).t.length tc) (v1:=F OA ((⟨aj x.t st va,x.o,x.gt+va,x.sd,x.ms⟩ : Oc)).o.length oc) (v2:=O U ((⟨aj x.t st va,x.o,x.gt+va,x.sd,x.ms⟩ : Oc)).gt) (v3:=O U ((⟨aj x.t st va,x.o,x.gt+va,x.sd,x.ms⟩ : Oc)).sd) (v4:=O U ((⟨aj x.t st va,x.o,x.gt+va,x.sd,x.ms⟩ : Oc)).ms) Lr h2 ch)
 have PR:=eD (v0:=F TA ((⟨aj x.t st va,x.o,x.gt+va,x.sd,x.ms⟩ : Oc)).t.length tc) (v1:=F OA ((⟨aj x.t st va,x.o,x.gt+va,x.sd,x.ms⟩ : Oc)).o.length oc) (v2:=O U ((⟨aj x.t st va,x.o,x.gt+va,x.sd,x.ms⟩ : Oc)).gt) (v3:=O U ((⟨aj x.t st va,x.o,x.gt+va,x.sd,x.ms⟩ : Oc)).sd) (v4:=O U ((⟨aj x.t st va,x.o,x.gt+va,x.sd,x.ms⟩ : Oc)).ms) Lr
 generalize dr W8 (w.heap.size+1+1) (F TA ((⟨aj x.t st va,x.o,x.gt+va,x.sd,x.ms⟩ : Oc)).t.length tc) (F OA ((⟨aj x.t st va,x.o,x.gt+va,x.sd,x.ms⟩ : Oc)).o.length oc) (O U ((⟨aj x.t st va,x.o,x.gt+va,x.sd,x.ms⟩ : Oc)).gt) (O U ((⟨aj x.t st va,x.o,x.gt+va,x.sd,x.ms⟩ : Oc)).sd) (O U ((⟨aj x.t st va,x.o,x.gt+va,x.sd,x.ms⟩ : Oc)).ms)=W9 at bz HT HO PR ⊢
 obtain ⟨k0,k1,k2,k3,k4⟩:=cells5 PR
 clear h1 h2 Lr xm xv PR
 go_wp2
 refine bodyPost_ret (v:=.tuple #[.agg #[F TA ((⟨aj x.t st va,x.o,x.gt+va,x.sd,x.ms⟩ : Oc)).t.length tc,F OA ((⟨aj x.t st va,x.o,x.gt+va,x.sd,x.ms⟩ : Oc)).o.length oc,O U ((⟨aj x.t st va,x.o,x.gt+va,x.sd,x.ms⟩ : Oc)).gt,O U ((⟨aj x.t st va,x.o,x.gt+va,x.sd,x.ms⟩ : Oc)).sd,O U ((⟨aj x.t st va,x.o,x.gt+va,x.sd,x.ms⟩ : Oc)).ms],.bool gd]) (by simp [results,Tryz.results127,go_sem, *]) rfl ?_
 exact ⟨TA,tc,OA,oc,rfl,HT.out,HO.out,bz⟩
set_option maxRecDepth 100000 in
theorem vv (x:aN) (kd st pe va:Int) (hk:(kd == 1)=false) (ht:ay x.t st < 0) (w:World) (h:aQ w w.heap.size x) (G:bK x) (xA:x.t.length≤x.tc) :
  Calls xi 127 #[x.val,.agg #[O U kd,O U st,O U pe,O U va]] w (dz w (x.c,false)):=by
 have L1:=((ai.new w 40 #[F x.TA x.t.length x.tc,F x.OA x.o.length x.oc,O U x.gt,O U x.sd,O U x.ms]).alloc (.cells #[O U kd,O U st,O U pe,O U va] 112)).alloc (.cells #[F none 0 0,F none 0 0,O U 0,O U 0,O U 0] 40)
 have L2:=(ai.new1 w (.cells #[F x.TA x.t.length x.tc,F x.OA x.o.length x.oc,O U x.gt,O U x.sd,O U x.ms] 40) 112 #[O U kd,O U st,O U pe,O U va]).alloc (.cells #[F none 0 0,F none 0 0,O U 0,O U 0,O U 0] 40)
 have L3:=ai.new2 w (.cells #[F x.TA x.t.length x.tc,F x.OA x.o.length x.oc,O U x.gt,O U x.sd,O U x.ms] 40) (.cells #[O U kd,O U st,O U pe,O U va] 112) 40 #[F none 0 0,F none 0 0,O U 0,O U 0,O U 0]
 have b1:=bZ w (.cells #[F x.TA x.t.length x.tc,F x.OA x.o.length x.oc,O U x.gt,O U x.sd,O U x.ms] 40)
 have b2:=b1.alloc b1.size (.cells #[O U kd,O U st,O U pe,O U va] 112)
 have b3:=b2.alloc b2.size (.cells #[F none 0 0,F none 0 0,O U 0,O U 0,O U 0] 40)
 have Sx:=G.small
 have CC:=G.tl
 have CD:=G.ol
 have AQ:=G.tcs
 obtain ⟨m1,m2⟩:=G.m
 obtain ⟨g1,g2⟩:=G.s
 obtain ⟨o1,o2⟩:=G.g
 clear b1 b2 G
 have JU:decide (ay x.t st < 0)=true:=jD ht
 have Bt:=jZ ht; clear ht
 go_enter Tryz.func127,Tryz.ntmps127
 go_wp2_with fail
 generalize (((w.alloc (.cells #[F x.TA x.t.length x.tc,F x.OA x.o.length x.oc,O U x.gt,O U x.sd,O U x.ms] 40)).alloc (.cells #[O U kd,O U st,O U pe,O U va] 112)).alloc (.cells #[F none 0 0,F none 0 0,O U 0,O U 0,O U 0] 40))=W at L1 L2 L3 b3 ⊢
 have hR:=h.up b3 nR
 refine (bP x st W hR).mono ?_
 rintro e W1 ⟨rfl,xp⟩
 have yV:=hR.then xp
 have x9:=L1.below xp L1.lt
 have xU:=L2.below xp L2.lt
 have yi:=L3.below xp L3.lt
 have b4:=b3.trans (xp.mono b3.size)
 have zr:w.heap.size≤W1.heap.size:=b4.size
 clear L1 L2 L3 b3 xp hR h
 obtain ⟨c0,c1,c2,c3,c4⟩:=cells5 x9
 obtain ⟨s0,s1,s2,s3⟩:=cells4 xU
 go_wp2_with fail
 refine (jK x W1 yV oM oM).mono ?_
 rintro e W2 ⟨TA,tc,OA,oc,rfl,hT,hO,xn⟩
 simp only [aN.c] at hT hO
 have zw:=yi.below xn yi.lt
 have b5:=b4.trans (xn.mono b4.size)
 have xQ:=ag hT zr
 have xL:=ag hO zr
 clear c0 c1 c2 c3 c4 s0 s1 s2 s3 x9 xU yi b4 hT hO
 obtain ⟨z0,z1,z2,z3,z4⟩:=cells5 zw
 obtain ⟨f0,f1,f2,f3,f4⟩:=frz5 zw
 have bz:=b5.trans (ci (v0:=F TA x.t.length tc) (v1:=F OA x.o.length oc) (v2:=O U x.gt) (v3:=O U x.sd) (v4:=O U x.ms) zw (show w.heap.size≤w.heap.size+1+1 by omega))
 have HT:=jZ (aR (v0:=F TA x.t.length tc) (v1:=F OA x.o.length oc) (v2:=O U x.gt) (v3:=O U x.sd) (v4:=O U x.ms) zw xQ cd)
 have HO:=jZ (aR (v0:=F TA x.t.length tc) (v1:=F OA x.o.length oc) (v2:=O U x.gt) (v3:=O U x.sd) (v4:=O U x.ms) zw xL ch)
 clear xQ xL b5 yV xn
 simp only [aN.c,Oc.at,aN.val]
 go_wp2
 refine bodyPost_ret (v:=.tuple #[.agg #[F TA x.t.length tc,F OA x.o.length oc,O U x.gt,O U x.sd,O U x.ms],.bool false]) (by simp [results,Tryz.results127,go_sem, *]) rfl ?_
 exact ⟨TA,tc,OA,oc,rfl,HT.out,HO.out,bz⟩
set_option maxRecDepth 100000 in
theorem sq (x:aN) (st va:Int) (xM:1≤st∧st≤99) (zR:1≤va∧va≤9999) (ht:0≤ay x.t st) (w:World) (h:aQ w w.heap.size x) (G:bK x) (xA:x.t.length≤x.tc) :
  Calls xi 127 #[x.val,.agg #[O U 4,O U st,O U 0,O U va]] w (dz w ((⟨aj x.t st (-va),x.o,x.gt,x.sd+va,x.ms⟩ : Oc),((⟨aj x.t st (-va),x.o,x.gt,x.sd+va,x.ms⟩ : Oc)).good)):=by
 have L1:=((ai.new w 40 #[F x.TA x.t.length x.tc,F x.OA x.o.length x.oc,O U x.gt,O U x.sd,O U x.ms]).alloc (.cells #[O U 4,O U st,O U 0,O U va] 112)).alloc (.cells #[F none 0 0,F none 0 0,O U 0,O U 0,O U 0] 40)
 have L2:=(ai.new1 w (.cells #[F x.TA x.t.length x.tc,F x.OA x.o.length x.oc,O U x.gt,O U x.sd,O U x.ms] 40) 112 #[O U 4,O U st,O U 0,O U va]).alloc (.cells #[F none 0 0,F none 0 0,O U 0,O U 0,O U 0] 40)
 have L3:=ai.new2 w (.cells #[F x.TA x.t.length x.tc,F x.OA x.o.length x.oc,O U x.gt,O U x.sd,O U x.ms] 40) (.cells #[O U 4,O U st,O U 0,O U va] 112) 40 #[F none 0 0,F none 0 0,O U 0,O U 0,O U 0]
 have b1:=bZ w (.cells #[F x.TA x.t.length x.tc,F x.OA x.o.length x.oc,O U x.gt,O U x.sd,O U x.ms] 40)
 have b2:=b1.alloc b1.size (.cells #[O U 4,O U st,O U 0,O U va] 112)
 have b3:=b2.alloc b2.size (.cells #[F none 0 0,F none 0 0,O U 0,O U 0,O U 0] 40)
 have Sx:=G.small
 have CC:=G.tl
 have CD:=G.ol
 have AQ:=G.tcs
 obtain ⟨m1,m2⟩:=G.m
 obtain ⟨g1,g2⟩:=G.s
 obtain ⟨o1,o2⟩:=G.g
 clear b1 b2 G
 obtain ⟨v1,v2⟩:=zR
 obtain ⟨gd,zz⟩ : ∃ gd,((⟨aj x.t st (-va),x.o,x.gt,x.sd+va,x.ms⟩ : Oc)).good=gd:=⟨_,rfl⟩
 rw [zz]
 have HG:=jZ zz; clear zz
 have i3:IntKind.i64.wrap (-va) = -va:=IntWalk.i64_in _ oM
 have i4:IntKind.i64.wrap (x.sd+va)=x.sd+va:=IntWalk.i64_in _ oM
 have JU:decide (ay x.t st < 0)=false:=jE oM
 have Bt:=jZ ht; clear ht
 go_enter Tryz.func127,Tryz.ntmps127
 go_wp2_with fail
 generalize (((w.alloc (.cells #[F x.TA x.t.length x.tc,F x.OA x.o.length x.oc,O U x.gt,O U x.sd,O U x.ms] 40)).alloc (.cells #[O U 4,O U st,O U 0,O U va] 112)).alloc (.cells #[F none 0 0,F none 0 0,O U 0,O U 0,O U 0] 40))=W at L1 L2 L3 b3 ⊢
 have hR:=h.up b3 nR
 refine (bP x st W hR).mono ?_
 rintro e W1 ⟨rfl,xp⟩
 have yV:=hR.then xp
 have x9:=L1.below xp L1.lt
 have xU:=L2.below xp L2.lt
 have yi:=L3.below xp L3.lt
 have b4:=b3.trans (xp.mono b3.size)
 have zr:w.heap.size≤W1.heap.size:=b4.size
 clear L1 L2 L3 b3 xp hR h
 obtain ⟨c0,c1,c2,c3,c4⟩:=cells5 x9
 obtain ⟨s0,s1,s2,s3⟩:=cells4 xU
 go_wp2_with fail
 refine (wU x st (-va) W1 yV Sx oM xA).mono ?_
 rintro e W2 ⟨v2,rfl,⟨TA,tc,OA,oc,xV,hT,hO⟩,xn⟩
 have xV:v2=.agg #[F TA (aj x.t st (-va)).length tc,F OA x.o.length oc,O U x.gt,O U x.sd,O U x.ms]:=xV
 subst xV
 simp only at hT hO
 have xo:=(Below.refl W2.heap.size W2).alloc nR (.cells #[F TA (aj x.t st (-va)).length tc,F OA x.o.length oc,O U x.gt,O U x.sd,O U x.ms] 40)
 have zg:=(x9.below xn x9.lt).below xo (jL x9.lt xn.size)
 have zh:=(xU.below xn xU.lt).below xo (jL xU.lt xn.size)
 have zw:=(yi.below xn yi.lt).below xo (jL yi.lt xn.size)
 have P:=ai.new W2 40 #[F TA (aj x.t st (-va)).length tc,F OA x.o.length oc,O U x.gt,O U x.sd,O U x.ms]
 have ye:=ag (ac hT xo) zr
 have xN:=ag (ac hO xo) zr
 have b5:=b4.trans ((av xn xo).mono b4.size)
 have yF:w.heap.size+1+1 < W2.heap.size:=jL yi.lt xn.size
 clear c0 c1 c2 c3 c4 s0 s1 s2 s3
 obtain ⟨W3,yh⟩ : ∃ W3,W2.alloc (.cells #[F TA (aj x.t st (-va)).length tc,F OA x.o.length oc,O U x.gt,O U x.sd,O U x.ms] 40)=W3:=⟨_,rfl⟩
 rw [yh] at zg zh zw P ye xN b5
 generalize ym:W2.heap.size=g2 at P yF
 obtain ⟨c0,c1,c2,c3,c4⟩:=cells5 zg
 obtain ⟨s0,s1,s2,s3⟩:=cells4 zh
 obtain ⟨p0,p1,p2,p3,p4⟩:=cells5 P
 obtain ⟨pf0,pf1,pf2,pf3,pf4⟩:=frz5 P
 have P4:=P.set 3 (O U (x.sd+va))
 have yR:=zg.other (p:=⟨g2,3,none⟩) (by simp; omega) (O U (x.sd+va))
 have zn:=zh.other (p:=⟨g2,3,none⟩) (by simp; omega) (O U (x.sd+va))
 have yW:=zw.other (p:=⟨g2,3,none⟩) (by simp; omega) (O U (x.sd+va))
 have xQ:=am ye P cd 3 (O U (x.sd+va))
 have xL:=am xN P ch 3 (O U (x.sd+va))
 have b6:=b5.setCell (p:=⟨g2,3,none⟩) (show w.heap.size≤g2 by omega) (O U (x.sd+va))
 simp only [List.set_cons_zero,List.set_cons_succ] at P4
 obtain ⟨W4,yx⟩ : ∃ W4,W3.setCell ⟨g2,3,none⟩ (O U (x.sd+va))=W4:=⟨_,rfl⟩
 rw [yx] at P4 yR zn yW xQ xL b6
 clear xn xo hT hO x9 xU yi b4 yV
 go_wp2_with (first | (rw [yh]; clear yh; rw [ym]) | (rw [yx]; clear yx))
 clear c0 c1 c2 c3 c4 s0 s1 s2 s3 p0 p1 p2 p3 p4 pf0 pf1 pf2 pf3 pf4
 obtain ⟨D1,zt⟩ : ∃ D:World→Prop,D=(fun W9=>∃ W8 TA tc OA oc,Below W4.heap.size W4 W8∧W8.ownsRow w.heap.size 104 2 (F TA ((⟨aj x.t st (-va),x.o,x.gt,x.sd+va,x.ms⟩ : Oc)).t.length tc) ((⟨aj x.t st (-va),x.o,x.gt,x.sd+va,x.ms⟩ : Oc)).t.length (((⟨aj x.t st (-va),x.o,x.gt,x.sd+va,x.ms⟩ : Oc)).t.flatMap ar.enc)∧W8.ownsRow w.heap.size 147 3 (F OA ((⟨aj x.t st (-va),x.o,x.gt,x.sd+va,x.ms⟩ : Oc)).o.length oc) ((⟨aj x.t st (-va),x.o,x.gt,x.sd+va,x.ms⟩ : Oc)).o.length (((⟨aj x.t st (-va),x.o,x.gt,x.sd+va,x.ms⟩ : Oc)).o.flatMap ae.enc)∧W9=dr W8 (w.heap.size+1+1) (F TA ((⟨aj x.t st (-va),x.o,x.gt,x.sd+va,x.ms⟩ : Oc)).t.length tc) (F OA ((⟨aj x.t st (-va),x.o,x.gt,x.sd+va,x.ms⟩ : Oc)).o.length oc) (O U ((⟨aj x.t st (-va),x.o,x.gt,x.sd+va,x.ms⟩ : Oc)).gt) (O U ((⟨aj x.t st (-va),x.o,x.gt,x.sd+va,x.ms⟩ : Oc)).sd) (O U ((⟨aj x.t st (-va),x.o,x.gt,x.sd+va,x.ms⟩ : Oc)).ms)):=⟨_,rfl⟩
 have Do:∀ W,D1 W→∃ W8 v0 v1 v2 v3 v4,Below W4.heap.size W4 W8∧W=dr W8 (w.heap.size+1+1) v0 v1 v2 v3 v4:=by
  rw [zt]
  rintro _ ⟨W8,TA,tc,OA,oc,hq,_,_,e⟩
  exact ⟨W8,_,_,_,_,_,hq,e⟩
 have Aa:=jZ zt; clear zt
 refine al (Sw 3 (fun W9=>Below W4.heap.size W4 W9) D1) (fun i w1 w2=>i ∉ [3]→Below w1.heap.size w1 w2) kZ kZ kZ (Sw.start jB.drew) ?_
 simp only [ax,Act.put,sA,gs0,gs1,Nat.zero_add,Nat.reduceAdd]
 refine aa _ (vb0C5 P4) ?_
 refine aa _ (vb0C5 P4) ?_
 apply aa
 case h1 =>
  intro vs L9 w9 xl xj hB K9 xk
  replace xj:=sb xj xl
  have d1:=fe hB 1
  simp only [d1] at xk ⊢
  simp only [Act.put,sA,gs0,gs1] at xk
  go_simp
  refine (show Calls _ _ _ _ (fun e w'=>e=.returned (.bool gd)∧Below w9.heap.size w9 w') from by rw [← HG.out]; exact vm (show fk w9 w.heap.size (⟨aj x.t st (-va),x.o,x.gt,x.sd+va,x.ms⟩ : Oc) _ from ⟨TA,tc,OA,oc,rfl,ac xQ xj,ac xL xj⟩)).mono ?_
  rintro en w8 ⟨rfl,xm⟩
  exact xk _ _ rfl (Sw.stay xl kZ dD (xj.trans (xm.mono xj.size))) (fun _=>xm)
 refine aa (undef) (fun vs L9 w9 xl xj hB K9 xk=>?he3) ?re3
 case he3 =>
  replace xj:=xj.here xl
  have d0:=fe hB 0
  simp only [d0] at xk ⊢
  have Lr:=yW.below xj yW.lt
  obtain ⟨z0,z1,z2,z3,z4⟩:=cells5 Lr
  obtain ⟨f0,f1,f2,f3,f4⟩:=frz5 Lr
  clear Lr
  go_simp
  exact xk _ _ rfl (Sw.turn (by rw [Aa.out]; exact ⟨w9,TA,tc,OA,oc,xj,ac xQ xj,ac xL xj,rfl⟩)) nq
 refine aa _ (va1 2) ?_
 refine au fun vs L9 w9 xv xj hB=>?_
 replace xj:=xj.done xv dD
 have dl:=ah.eq (hB 4 _ rfl rfl dD)
 simp only [dl]
 clear hB dl
 rw [Aa.out] at xj
 obtain ⟨W8,TA,tc,OA,oc,xm,h1,h2,rfl⟩:=xj
 have Lr:=yW.below xm yW.lt
 have bz:=(b6.trans (xm.mono b6.size)).trans (ci (v0:=F TA ((⟨aj x.t st (-va),x.o,x.gt,x.sd+va,x.ms⟩ : Oc)).t.length tc) (v1:=F OA ((⟨aj x.t st (-va),x.o,x.gt,x.sd+va,x.ms⟩ : Oc)).o.length oc) (v2:=O U ((⟨aj x.t st (-va),x.o,x.gt,x.sd+va,x.ms⟩ : Oc)).gt) (v3:=O U ((⟨aj x.t st (-va),x.o,x.gt,x.sd+va,x.ms⟩ : Oc)).sd) (v4:=O U ((⟨aj x.t st (-va),x.o,x.gt,x.sd+va,x.ms⟩ : Oc)).ms) Lr (show w.heap.size≤(w.heap.size+1+1) by omega))
 have HT:=jZ (aR (v0:=F TA ((⟨aj x.t st (-va),x.o,x.gt,x.sd+va,x.ms⟩ : Oc)).t.length tc) (v1:=F OA ((⟨aj x.t st (-va),x.o,x.gt,x.sd+va,x.ms⟩ : Oc)).o.length oc) (v2:=O U ((⟨aj x.t st (-va),x.o,x.gt,x.sd+va,x.ms⟩ : Oc)).gt) (v3:=O U ((⟨aj x.t st (-va),x.o,x.gt,x.sd+va,x.ms⟩ : Oc)).sd) (v4:=O U ((⟨aj x.t st (-va),x.o,x.gt,x.sd+va,x.ms⟩ : Oc)).ms) Lr h1 cd)
 have HO:=jZ (aR (v0:=F TA ((⟨aj x.t st (-va),x.o,x.gt,x.sd+va,x.ms⟩ : Oc)).t.length tc) (v1:=F OA ((⟨aj x.t st (-va),x.o,x.gt,x.sd+va,x.ms⟩ : Oc)).o.length oc) (v2:=O U ((⟨aj x.t st (-va),x.o,x.gt,x.sd+va,x.ms⟩ : Oc)).gt) (v3:=O U ((⟨aj x.t st (-va),x.o,x.gt,x.sd+va,x.ms⟩ : Oc)).sd) (v4:=O U ((⟨aj x.t st (-va),x.o,x.gt,x.sd+va,x.ms⟩ : Oc)).ms) Lr h2 ch)
 have PR:=eD (v0:=F TA ((⟨aj x.t st (-va),x.o,x.gt,x.sd+va,x.ms⟩ : Oc)).t.length tc) (v1:=F OA ((⟨aj x.t st (-va),x.o,x.gt,x.sd+va,x.ms⟩ : Oc)).o.length oc) (v2:=O U ((⟨aj x.t st (-va),x.o,x.gt,x.sd+va,x.ms⟩ : Oc)).gt) (v3:=O U ((⟨aj x.t st (-va),x.o,x.gt,x.sd+va,x.ms⟩ : Oc)).sd) (v4:=O U ((⟨aj x.t st (-va),x.o,x.gt,x.sd+va,x.ms⟩ : Oc)).ms) Lr
 generalize dr W8 (w.heap.size+1+1) (F TA ((⟨aj x.t st (-va),x.o,x.gt,x.sd+va,x.ms⟩ : Oc)).t.length tc) (F OA ((⟨aj x.t st (-va),x.o,x.gt,x.sd+va,x.ms⟩ : Oc)).o.length oc) (O U ((⟨aj x.t st (-va),x.o,x.gt,x.sd+va,x.ms⟩ : Oc)).gt) (O U ((⟨aj x.t st (-va),x.o,x.gt,x.sd+va,x.ms⟩ : Oc)).sd) (O U ((⟨aj x.t st (-va),x.o,x.gt,x.sd+va,x.ms⟩ : Oc)).ms)=W9 at bz HT HO PR ⊢
 obtain ⟨k0,k1,k2,k3,k4⟩:=cells5 PR
 clear h1 h2 Lr xm xv PR
 go_wp2
 refine bodyPost_ret (v:=.tuple #[.agg #[F TA ((⟨aj x.t st (-va),x.o,x.gt,x.sd+va,x.ms⟩ : Oc)).t.length tc,F OA ((⟨aj x.t st (-va),x.o,x.gt,x.sd+va,x.ms⟩ : Oc)).o.length oc,O U ((⟨aj x.t st (-va),x.o,x.gt,x.sd+va,x.ms⟩ : Oc)).gt,O U ((⟨aj x.t st (-va),x.o,x.gt,x.sd+va,x.ms⟩ : Oc)).sd,O U ((⟨aj x.t st (-va),x.o,x.gt,x.sd+va,x.ms⟩ : Oc)).ms],.bool gd]) (by simp [results,Tryz.results127,go_sem, *]) rfl ?_
 exact ⟨TA,tc,OA,oc,rfl,HT.out,HO.out,bz⟩
set_option maxRecDepth 100000 in
theorem nu (x:aN) (kd st pe va:Int) (r:Oc) (hk:(kd == 1)=false) (yE:1≤pe) (ht:0≤ay x.t st) (w:World) (h:aQ w w.heap.size x) (G:bK x) (xA:x.t.length≤x.tc)
  (hP:∀ W,aQ W W.heap.size x→Calls xi 175 #[x.val,.agg #[O U kd,O U st,O U pe,O U va]] W (dz W (r,true))) :
  Calls xi 127 #[x.val,.agg #[O U kd,O U st,O U pe,O U va]] w (dz w (r,r.good)):=by
 have L1:=((ai.new w 40 #[F x.TA x.t.length x.tc,F x.OA x.o.length x.oc,O U x.gt,O U x.sd,O U x.ms]).alloc (.cells #[O U kd,O U st,O U pe,O U va] 112)).alloc (.cells #[F none 0 0,F none 0 0,O U 0,O U 0,O U 0] 40)
 have L2:=(ai.new1 w (.cells #[F x.TA x.t.length x.tc,F x.OA x.o.length x.oc,O U x.gt,O U x.sd,O U x.ms] 40) 112 #[O U kd,O U st,O U pe,O U va]).alloc (.cells #[F none 0 0,F none 0 0,O U 0,O U 0,O U 0] 40)
 have L3:=ai.new2 w (.cells #[F x.TA x.t.length x.tc,F x.OA x.o.length x.oc,O U x.gt,O U x.sd,O U x.ms] 40) (.cells #[O U kd,O U st,O U pe,O U va] 112) 40 #[F none 0 0,F none 0 0,O U 0,O U 0,O U 0]
 have b1:=bZ w (.cells #[F x.TA x.t.length x.tc,F x.OA x.o.length x.oc,O U x.gt,O U x.sd,O U x.ms] 40)
 have b2:=b1.alloc b1.size (.cells #[O U kd,O U st,O U pe,O U va] 112)
 have b3:=b2.alloc b2.size (.cells #[F none 0 0,F none 0 0,O U 0,O U 0,O U 0] 40)
 have Sx:=G.small
 have CC:=G.tl
 have CD:=G.ol
 have AQ:=G.tcs
 obtain ⟨m1,m2⟩:=G.m
 obtain ⟨g1,g2⟩:=G.s
 obtain ⟨o1,o2⟩:=G.g
 clear b1 b2 G
 have MM:(pe == (0:Int))=false:=by simp; omega
 clear yE
 have JU:decide (ay x.t st < 0)=false:=jE oM
 have Bt:=jZ ht; clear ht
 obtain ⟨gd,zz⟩ : ∃ gd,(r).good=gd:=⟨_,rfl⟩
 rw [zz]
 have HG:=jZ zz; clear zz
 go_enter Tryz.func127,Tryz.ntmps127
 go_wp2_with fail
 generalize (((w.alloc (.cells #[F x.TA x.t.length x.tc,F x.OA x.o.length x.oc,O U x.gt,O U x.sd,O U x.ms] 40)).alloc (.cells #[O U kd,O U st,O U pe,O U va] 112)).alloc (.cells #[F none 0 0,F none 0 0,O U 0,O U 0,O U 0] 40))=W at L1 L2 L3 b3 ⊢
 have hR:=h.up b3 nR
 refine (bP x st W hR).mono ?_
 rintro e W1 ⟨rfl,xp⟩
 have yV:=hR.then xp
 have x9:=L1.below xp L1.lt
 have xU:=L2.below xp L2.lt
 have yi:=L3.below xp L3.lt
 have b4:=b3.trans (xp.mono b3.size)
 have zr:w.heap.size≤W1.heap.size:=b4.size
 clear L1 L2 L3 b3 xp hR h
 obtain ⟨c0,c1,c2,c3,c4⟩:=cells5 x9
 obtain ⟨s0,s1,s2,s3⟩:=cells4 xU
 go_wp2_with fail
 refine (hP W1 yV).mono ?_
 rintro e W2 ⟨TA,tc,OA,oc,rfl,hT,hO,xn⟩
 simp only at hT hO
 have xo:=(Below.refl W2.heap.size W2).alloc nR (.cells #[F TA r.t.length tc,F OA r.o.length oc,O U r.gt,O U r.sd,O U r.ms] 40)
 have zw:=(yi.below xn yi.lt).below xo (jL yi.lt xn.size)
 have P4:=ai.new W2 40 #[F TA r.t.length tc,F OA r.o.length oc,O U r.gt,O U r.sd,O U r.ms]
 have xQ:=ag (ac hT xo) zr
 have xL:=ag (ac hO xo) zr
 have b6:=b4.trans ((av xn xo).mono b4.size)
 have yF:w.heap.size+1+1 < W2.heap.size:=jL yi.lt xn.size
 clear c0 c1 c2 c3 c4 s0 s1 s2 s3
 have yW:=zw
 clear xn xo hT hO x9 xU yi b4 yV zw hP
 obtain ⟨W4,yx⟩ : ∃ W4,W2.alloc (.cells #[F TA r.t.length tc,F OA r.o.length oc,O U r.gt,O U r.sd,O U r.ms] 40)=W4:=⟨_,rfl⟩
 rw [yx] at yW P4 xQ xL b6
 generalize ym:W2.heap.size=g2 at P4 yF
 go_wp2_with (rw [yx]; clear yx; rw [ym])
 obtain ⟨D1,zt⟩ : ∃ D:World→Prop,D=(fun W9=>∃ W8 TA tc OA oc,Below W4.heap.size W4 W8∧W8.ownsRow w.heap.size 104 2 (F TA (r).t.length tc) (r).t.length ((r).t.flatMap ar.enc)∧W8.ownsRow w.heap.size 147 3 (F OA (r).o.length oc) (r).o.length ((r).o.flatMap ae.enc)∧W9=dr W8 (w.heap.size+1+1) (F TA (r).t.length tc) (F OA (r).o.length oc) (O U (r).gt) (O U (r).sd) (O U (r).ms)):=⟨_,rfl⟩
 have Do:∀ W,D1 W→∃ W8 v0 v1 v2 v3 v4,Below W4.heap.size W4 W8∧W=dr W8 (w.heap.size+1+1) v0 v1 v2 v3 v4:=by
  rw [zt]
  rintro _ ⟨W8,TA,tc,OA,oc,hq,_,_,e⟩
  exact ⟨W8,_,_,_,_,_,hq,e⟩
 have Aa:=jZ zt; clear zt
 refine al (Sw 6 (fun W9=>Below W4.heap.size W4 W9) D1) (fun i w1 w2=>i ∉ [6]→Below w1.heap.size w1 w2) kZ kZ kZ (Sw.start jB.drew) ?_
 simp only [ax,Act.put,sA,gs0,gs1,Nat.zero_add,Nat.reduceAdd]
 refine aa _ (vb0C5 P4) ?_
 refine aa _ vb0 ?_
 refine aa _ (vb1 1) ?_
 refine aa _ (vb1C5 2 P4) ?_
 apply aa
 case h1 =>
  intro vs L9 w9 xl xj hB K9 xk
  replace xj:=sb xj xl
  have d3:=fe hB 3
  have d2:=fe hB 2
  simp only [d3,d2] at xk ⊢
  simp only [Act.put,sA,gs0,gs1] at xk
  go_simp
  refine (show Calls _ _ _ _ (fun e w'=>e=.returned (.bool gd)∧Below w9.heap.size w9 w') from by rw [← HG.out]; exact vm (show fk w9 w.heap.size r _ from ⟨TA,tc,OA,oc,rfl,ac xQ xj,ac xL xj⟩)).mono ?_
  rintro en w8 ⟨rfl,xm⟩
  exact xk _ _ rfl (Sw.stay xl kZ dD (xj.trans (xm.mono xj.size))) (fun _=>xm)
 refine aa _ (vo2 2 4) ?_
 refine aa (undef) (fun vs L9 w9 xl xj hB K9 xk=>?hq6) ?rq6
 case hq6 =>
  replace xj:=xj.here xl
  have d0:=fe hB 0
  simp only [d0] at xk ⊢
  have Lr:=yW.below xj yW.lt
  obtain ⟨z0,z1,z2,z3,z4⟩:=cells5 Lr
  obtain ⟨f0,f1,f2,f3,f4⟩:=frz5 Lr
  clear Lr
  go_simp
  exact xk _ _ rfl (Sw.turn (by rw [Aa.out]; exact ⟨w9,TA,tc,OA,oc,xj,ac xQ xj,ac xL xj,rfl⟩)) nq
 refine aa _ (va1 5) ?_
 refine au fun vs L9 w9 xv xj hB=>?_
 replace xj:=xj.done xv dD
 have dl:=ah.eq (hB 7 _ rfl rfl dD)
 simp only [dl]
 clear hB dl
 rw [Aa.out] at xj
 obtain ⟨W8,TA,tc,OA,oc,xm,h1,h2,rfl⟩:=xj
 have Lr:=yW.below xm yW.lt
 have bz:=(b6.trans (xm.mono b6.size)).trans (ci (v0:=F TA (r).t.length tc) (v1:=F OA (r).o.length oc) (v2:=O U (r).gt) (v3:=O U (r).sd) (v4:=O U (r).ms) Lr (show w.heap.size≤(w.heap.size+1+1) by omega))
 have HT:=jZ (aR (v0:=F TA (r).t.length tc) (v1:=F OA (r).o.length oc) (v2:=O U (r).gt) (v3:=O U (r).sd) (v4:=O U (r).ms) Lr h1 cd)
 have HO:=jZ (aR (v0:=F TA (r).t.length tc) (v1:=F OA (r).o.length oc) (v2:=O U (r).gt) (v3:=O U (r).sd) (v4:=O U (r).ms) Lr h2 ch)
 have PR:=eD (v0:=F TA (r).t.length tc) (v1:=F OA (r).o.length oc) (v2:=O U (r).gt) (v3:=O U (r).sd) (v4:=O U (r).ms) Lr
 generalize dr W8 (w.heap.size+1+1) (F TA (r).t.length tc) (F OA (r).o.length oc) (O U (r).gt) (O U (r).sd) (O U (r).ms)=W9 at bz HT HO PR ⊢
 obtain ⟨k0,k1,k2,k3,k4⟩:=cells5 PR
 clear h1 h2 Lr xm xv PR
 go_wp2
 refine bodyPost_ret (v:=.tuple #[.agg #[F TA (r).t.length tc,F OA (r).o.length oc,O U (r).gt,O U (r).sd,O U (r).ms],.bool gd]) (by simp [results,Tryz.results127,go_sem, *]) rfl ?_
 exact ⟨TA,tc,OA,oc,rfl,HT.out,HO.out,bz⟩
set_option maxRecDepth 100000 in
theorem n8 (x:aN) (kd st pe va:Int) (r:Oc) (hk:(kd == 1)=false) (yE:1≤pe) (ht:0≤ay x.t st) (w:World) (h:aQ w w.heap.size x) (G:bK x) (xA:x.t.length≤x.tc)
  (hP:∀ W,aQ W W.heap.size x→Calls xi 175 #[x.val,.agg #[O U kd,O U st,O U pe,O U va]] W (dz W (r,false))) :
  Calls xi 127 #[x.val,.agg #[O U kd,O U st,O U pe,O U va]] w (dz w (r,false)):=by
 have L1:=((ai.new w 40 #[F x.TA x.t.length x.tc,F x.OA x.o.length x.oc,O U x.gt,O U x.sd,O U x.ms]).alloc (.cells #[O U kd,O U st,O U pe,O U va] 112)).alloc (.cells #[F none 0 0,F none 0 0,O U 0,O U 0,O U 0] 40)
 have L2:=(ai.new1 w (.cells #[F x.TA x.t.length x.tc,F x.OA x.o.length x.oc,O U x.gt,O U x.sd,O U x.ms] 40) 112 #[O U kd,O U st,O U pe,O U va]).alloc (.cells #[F none 0 0,F none 0 0,O U 0,O U 0,O U 0] 40)
 have L3:=ai.new2 w (.cells #[F x.TA x.t.length x.tc,F x.OA x.o.length x.oc,O U x.gt,O U x.sd,O U x.ms] 40) (.cells #[O U kd,O U st,O U pe,O U va] 112) 40 #[F none 0 0,F none 0 0,O U 0,O U 0,O U 0]
 have b1:=bZ w (.cells #[F x.TA x.t.length x.tc,F x.OA x.o.length x.oc,O U x.gt,O U x.sd,O U x.ms] 40)
 have b2:=b1.alloc b1.size (.cells #[O U kd,O U st,O U pe,O U va] 112)
 have b3:=b2.alloc b2.size (.cells #[F none 0 0,F none 0 0,O U 0,O U 0,O U 0] 40)
 have Sx:=G.small
 have CC:=G.tl
 have CD:=G.ol
 have AQ:=G.tcs
 obtain ⟨m1,m2⟩:=G.m
 obtain ⟨g1,g2⟩:=G.s
 obtain ⟨o1,o2⟩:=G.g
 clear b1 b2 G
 have MM:(pe == (0:Int))=false:=by simp; omega
 clear yE
 have JU:decide (ay x.t st < 0)=false:=jE oM
 have Bt:=jZ ht; clear ht
 go_enter Tryz.func127,Tryz.ntmps127
 go_wp2_with fail
 generalize (((w.alloc (.cells #[F x.TA x.t.length x.tc,F x.OA x.o.length x.oc,O U x.gt,O U x.sd,O U x.ms] 40)).alloc (.cells #[O U kd,O U st,O U pe,O U va] 112)).alloc (.cells #[F none 0 0,F none 0 0,O U 0,O U 0,O U 0] 40))=W at L1 L2 L3 b3 ⊢
 have hR:=h.up b3 nR
 refine (bP x st W hR).mono ?_
 rintro e W1 ⟨rfl,xp⟩
 have yV:=hR.then xp
 have x9:=L1.below xp L1.lt
 have xU:=L2.below xp L2.lt
 have yi:=L3.below xp L3.lt
 have b4:=b3.trans (xp.mono b3.size)
 have zr:w.heap.size≤W1.heap.size:=b4.size
 clear L1 L2 L3 b3 xp hR h
 obtain ⟨c0,c1,c2,c3,c4⟩:=cells5 x9
 obtain ⟨s0,s1,s2,s3⟩:=cells4 xU
 go_wp2_with fail
 refine (hP W1 yV).mono ?_
 rintro e W2 ⟨TA,tc,OA,oc,rfl,hT,hO,xn⟩
 simp only at hT hO
 have xo:=(Below.refl W2.heap.size W2).alloc nR (.cells #[F TA r.t.length tc,F OA r.o.length oc,O U r.gt,O U r.sd,O U r.ms] 40)
 have zw:=(yi.below xn yi.lt).below xo (jL yi.lt xn.size)
 have P4:=ai.new W2 40 #[F TA r.t.length tc,F OA r.o.length oc,O U r.gt,O U r.sd,O U r.ms]
 have xQ:=ag (ac hT xo) zr
 have xL:=ag (ac hO xo) zr
 have b6:=b4.trans ((av xn xo).mono b4.size)
 have yF:w.heap.size+1+1 < W2.heap.size:=jL yi.lt xn.size
 clear c0 c1 c2 c3 c4 s0 s1 s2 s3
 have yW:=zw
 clear xn xo hT hO x9 xU yi b4 yV zw hP
 obtain ⟨W4,yx⟩ : ∃ W4,W2.alloc (.cells #[F TA r.t.length tc,F OA r.o.length oc,O U r.gt,O U r.sd,O U r.ms] 40)=W4:=⟨_,rfl⟩
 rw [yx] at yW P4 xQ xL b6
 generalize ym:W2.heap.size=g2 at P4 yF
 go_wp2_with (rw [yx]; clear yx; rw [ym])
 obtain ⟨D1,zt⟩ : ∃ D:World→Prop,D=(fun W9=>∃ W8 TA tc OA oc,Below W4.heap.size W4 W8∧W8.ownsRow w.heap.size 104 2 (F TA (r).t.length tc) (r).t.length ((r).t.flatMap ar.enc)∧W8.ownsRow w.heap.size 147 3 (F OA (r).o.length oc) (r).o.length ((r).o.flatMap ae.enc)∧W9=dr W8 (w.heap.size+1+1) (F TA (r).t.length tc) (F OA (r).o.length oc) (O U (r).gt) (O U (r).sd) (O U (r).ms)):=⟨_,rfl⟩
 have Do:∀ W,D1 W→∃ W8 v0 v1 v2 v3 v4,Below W4.heap.size W4 W8∧W=dr W8 (w.heap.size+1+1) v0 v1 v2 v3 v4:=by
  rw [zt]
  rintro _ ⟨W8,TA,tc,OA,oc,hq,_,_,e⟩
  exact ⟨W8,_,_,_,_,_,hq,e⟩
 have Aa:=jZ zt; clear zt
 refine al (Sw 6 (fun W9=>Below W4.heap.size W4 W9) D1) (fun i w1 w2=>i ∉ [6]→Below w1.heap.size w1 w2) kZ kZ kZ (Sw.start jB.drew) ?_
 simp only [ax,Act.put,sA,gs0,gs1,Nat.zero_add,Nat.reduceAdd]
 refine aa _ (vb0C5 P4) ?_
 refine aa _ vb0 ?_
 refine aa _ (vb1 1) ?_
 refine aa (undef) (fun vs L9 w9 xl xj hB K9 xk=>?hq3) ?rq3
 case hq3 =>
  replace xj:=sb xj xl
  have d2:=fe hB 2
  simp only [d2] at xk ⊢
  go_simp
  exact xk _ _ rfl (sy xl xj) bR
 refine aa (undef) (fun vs L9 w9 xl xj hB K9 xk=>?hq4) ?rq4
 case hq4 =>
  replace xj:=sb xj xl
  have d3:=fe hB 3
  have d2:=fe hB 2
  simp only [d3,d2] at xk ⊢
  go_simp
  exact xk _ _ rfl (sy xl xj) bR
 refine aa _ (vo2 2 4) ?_
 refine aa (undef) (fun vs L9 w9 xl xj hB K9 xk=>?hq6) ?rq6
 case hq6 =>
  replace xj:=xj.here xl
  have d0:=fe hB 0
  simp only [d0] at xk ⊢
  have Lr:=yW.below xj yW.lt
  obtain ⟨z0,z1,z2,z3,z4⟩:=cells5 Lr
  obtain ⟨f0,f1,f2,f3,f4⟩:=frz5 Lr
  clear Lr
  go_simp
  exact xk _ _ rfl (Sw.turn (by rw [Aa.out]; exact ⟨w9,TA,tc,OA,oc,xj,ac xQ xj,ac xL xj,rfl⟩)) nq
 refine aa _ (va1 5) ?_
 refine au fun vs L9 w9 xv xj hB=>?_
 replace xj:=xj.done xv dD
 have dl:=ah.eq (hB 7 _ rfl rfl dD)
 simp only [dl]
 clear hB dl
 rw [Aa.out] at xj
 obtain ⟨W8,TA,tc,OA,oc,xm,h1,h2,rfl⟩:=xj
 have Lr:=yW.below xm yW.lt
 have bz:=(b6.trans (xm.mono b6.size)).trans (ci (v0:=F TA (r).t.length tc) (v1:=F OA (r).o.length oc) (v2:=O U (r).gt) (v3:=O U (r).sd) (v4:=O U (r).ms) Lr (show w.heap.size≤(w.heap.size+1+1) by omega))
 have HT:=jZ (aR (v0:=F TA (r).t.length tc) (v1:=F OA (r).o.length oc) (v2:=O U (r).gt) (v3:=O U (r).sd) (v4:=O U (r).ms) Lr h1 cd)
 have HO:=jZ (aR (v0:=F TA (r).t.length tc) (v1:=F OA (r).o.length oc) (v2:=O U (r).gt) (v3:=O U (r).sd) (v4:=O U (r).ms) Lr h2 ch)
 have PR:=eD (v0:=F TA (r).t.length tc) (v1:=F OA (r).o.length oc) (v2:=O U (r).gt) (v3:=O U (r).sd) (v4:=O U (r).ms) Lr
 generalize dr W8 (w.heap.size+1+1) (F TA (r).t.length tc) (F OA (r).o.length oc) (O U (r).gt) (O U (r).sd) (O U (r).ms)=W9 at bz HT HO PR ⊢
 obtain ⟨k0,k1,k2,k3,k4⟩:=cells5 PR
 clear h1 h2 Lr xm xv PR
 go_wp2
 refine bodyPost_ret (v:=.tuple #[.agg #[F TA (r).t.length tc,F OA (r).o.length oc,O U (r).gt,O U (r).sd,O U (r).ms],.bool false]) (by simp [results,Tryz.results127,go_sem, *]) rfl ?_
 exact ⟨TA,tc,OA,oc,rfl,HT.out,HO.out,bz⟩
theorem rg (x:aN) (kd st pe va:Int) (R:Oc × Bool) (hk:(kd == 1)=false) (yE:1≤pe) (ht:0≤ay x.t st) (w:World) (h:aQ w w.heap.size x) (G:bK x) (xA:x.t.length≤x.tc)
  (hP:∀ W,aQ W W.heap.size x→Calls xi 175 #[x.val,.agg #[O U kd,O U st,O U pe,O U va]] W (dz W R)) :
  Calls xi 127 #[x.val,.agg #[O U kd,O U st,O U pe,O U va]] w (dz w (R.1,R.2 && R.1.good)):=by
 obtain ⟨r,b⟩:=R
 cases b
 ·rw [Bool.false_and]; exact n8 x kd st pe va r hk yE ht w h G xA hP
 ·rw [Bool.true_and]; exact nu x kd st pe va r hk yE ht w h G xA hP
theorem rh (x:aN) (s:de) (w:World) (h:aQ w w.heap.size x) (G:bK x) (xA:x.t.length≤x.tc) (hs:s.okS=true) :
  Calls xi 127 #[x.val,s.val] w (dz w (gj x.c s)):=by
 obtain ⟨xM,hI⟩:=de.okS_is hs
 clear hs
 obtain ⟨kd,st,pe,va⟩:=s
 by_cases hT:ay x.t st < 0
 ·have own:∀ kd:Int,kd ≠ 1→Calls xi 127 #[x.val,.agg #[O U kd,O U st,O U pe,O U va]] w (dz w (gj x.c ⟨kd,st,pe,va⟩)):=fun kd hk=>by
   rw [show gj x.c ⟨kd,st,pe,va⟩=(x.c,false) from by
    unfold gj; rw [if_neg (show ¬ (de.mk kd st pe va).kind=1 from hk),if_pos (show ay x.c.t st < 0 from hT)]]
   exact vv x kd st pe va (by simpa using hk) hT w h G xA
  cases hI with
  | get hk hp hv =>
   simp only at hk hp hv xM; subst hk
   exact rf x st pe va xM hv w h G xA
  | show_ hk hp hv=>simp only at hk; subst hk; exact own 2 dD
  | back hk hp hv=>simp only at hk; subst hk; exact own 3 dD
  | sell0 hk hp hv=>simp only at hk; subst hk; exact own 4 dD
  | sell hk hp hv=>simp only at hk; subst hk; exact own 4 dD
  | miss hk hp hv=>simp only at hk; subst hk; exact own 5 dD
  | move hk hp hv=>simp only at hk; subst hk; exact own 6 dD
 ·have h0:0≤ay x.t st:=oM
  have per:∀ kd:Int,kd ≠ 1→(1≤pe∧pe≤999)→(∀ W,aQ W W.heap.size x→Calls xi 175 #[x.val,.agg #[O U kd,O U st,O U pe,O U va]] W (dz W (iX x.c ⟨kd,st,pe,va⟩))) →
    Calls xi 127 #[x.val,.agg #[O U kd,O U st,O U pe,O U va]] w (dz w (gj x.c ⟨kd,st,pe,va⟩)):=fun kd hk yE hP=>by
   rw [show gj x.c ⟨kd,st,pe,va⟩=((iX x.c ⟨kd,st,pe,va⟩).1,(iX x.c ⟨kd,st,pe,va⟩).2 && (iX x.c ⟨kd,st,pe,va⟩).1.good) from by
    unfold gj; rw [if_neg (show ¬ (de.mk kd st pe va).kind=1 from hk),if_neg (show ¬ ay x.c.t st < 0 from hT),if_neg (show ¬ (de.mk kd st pe va).person=0 from by show ¬ pe=0; omega)]]
   exact rg x kd st pe va _ (by simpa using hk) yE.1 h0 w h G xA hP
  cases hI with
  | get hk hp hv =>
   simp only at hk hp hv xM; subst hk
   exact rf x st pe va xM hv w h G xA
  | show_ hk hp hv=>simp only at hk hp hv xM; subst hk; exact per 2 dD hp fun W hW=>qY x st pe va W hW G xA xM hp hv
  | back hk hp hv=>simp only at hk hp hv xM; subst hk; exact per 3 dD hp fun W hW=>qZ x st pe va W hW G xA xM hp hv
  | sell0 hk hp hv =>
   simp only at hk hp hv xM; subst hk; subst hp
   have:=sq x st va xM hv h0 w h G xA
   rw [show gj x.c ⟨4,st,0,va⟩=((⟨aj x.t st (-va),x.o,x.gt,x.sd+va,x.ms⟩ : Oc),(⟨aj x.t st (-va),x.o,x.gt,x.sd+va,x.ms⟩ : Oc).good) from by
    unfold gj; rw [if_neg (show ¬ (4:Int)=1 by decide),if_neg (show ¬ ay x.c.t st < 0 from hT),if_pos rfl]; rfl]
   exact this
  | sell hk hp hv=>simp only at hk hp hv xM; subst hk; exact per 4 dD hp fun W hW=>re x st pe va W hW G xA xM hp hv
  | miss hk hp hv=>simp only at hk hp hv xM; subst hk; exact per 5 dD hp fun W hW=>q8 x st pe va W hW G xA xM hp
  | move hk hp hv=>simp only at hk hp hv xM; subst hk; exact per 6 dD hp fun W hW=>rc x st pe va W hW G xA xM hp hv
theorem jN (x:aN) (s:de) (w:World) (h:aQ w w.heap.size x) (xA:x.t.length≤x.tc) :
  Calls xi 76 #[x.val,s.val] w (aE w (if ap x && s.ok then bm x.c s else none)):=by
 have h1:=qW (fun x s w h G hc hs=>rh x s w h G hc hs) x s w h xA
 rw [show (if ap x && s.ok then bm x.c s else none)=(if ap x && s.okS then qT (gj x.c s) else none) from by
  cases hg:ap x
  ·rfl
  ·cases hs:s.okS
   ·have:=de.ok_okS s
    rw [hs,Bool.false_and] at this
    rw [this]; rfl
   ·rw [Bool.true_and,Bool.true_and,if_pos rfl,qU x s (bu.1 hg) hs]]
 exact h1
def gy (y:Oc) (s:de):Option Oc:=if y.good && s.ok then bm y s else none
theorem kn {r r' : Oc} (h:Oc.fin r=some r'):r'.good=true:=by
 unfold Oc.fin at h
 split at h
 ·rename_i hg; injection h with h; rw [← h]; exact hg
 ·cases h
theorem li {y r:Oc} {s:de} (h:bm y s=some r):r.good=true:=by
 unfold bm at h
 split at h
 ·exact kn h
 split at h
 ·cases h
 split at h
 ·exact kn h
 split at h
 ·cases h
 split at h
 ·exact kn h
 split at h
 ·split at h <;> exact kn h
 split at h <;> exact kn h
theorem Oc.good_off {y:Oc} (h:y.good=true) (TA:Option Addr) (tc:Nat) (OA:Option Addr) (oc:Nat):bK (y.at TA tc OA oc):=by
 have G:bK (y.at none 0 none 0):=bu.1 h
 exact ⟨G.tl,G.ol,G.g,G.s,G.m,G.ts,G.os,G.sum⟩
theorem kE {y:Oc} (h:y.good=true):y.t.length≤1000000∧y.o.length≤1000000:=by
 have G:bK (y.at none 0 none 0):=bu.1 h
 exact ⟨jT G.tl oM,jT G.ol oM⟩
def oS (w:World) (y:Oc) (b:Bool) (e:Ending) (w' : World):Prop :=
 ∃ TA tc OA oc,e=.returned (.tuple #[.agg #[F TA y.t.length tc,F OA y.o.length oc,O U y.gt,O U y.sd,O U y.ms,xh ⟨#[]⟩,xh ⟨#[]⟩,O U 0],.bool b])∧w'.ownsRow w.heap.size 104 2 (F TA y.t.length tc) y.t.length (y.t.flatMap ar.enc) ∧
  w'.ownsRow w.heap.size 147 3 (F OA y.o.length oc) y.o.length (y.o.flatMap ae.enc)∧Below w.heap.size w w'
def eU (n:Int):Oc:=if bX n 1 9999 then ⟨[⟨1,n⟩],[],n,0,0⟩ else Oc.zero
theorem gY:104 ≠ 42:=dD
theorem mb:147 ≠ 42:=dD
theorem pM (n:Int):gy Oc.zero ⟨1,1,0,n⟩=if bX n 1 9999 then some ⟨[⟨1,n⟩],[],n,0,0⟩ else none:=by
 have h0:Oc.zero.good=true:=dD
 unfold gy
 rw [h0,Bool.true_and]
 have xq:de.ok ⟨1,1,0,n⟩=bX n 1 9999:=by
  unfold de.ok; simp [bX]
 rw [xq]
 cases hn:bX n 1 9999
 ·rfl
 ·rw [if_pos rfl,if_pos rfl]
  have hb:=bV.1 hn
  have yw:aj [] 1 n = [⟨1,n⟩]:=by
   unfold aj; simp [ay,bB,dG]
  unfold bm
  rw [if_pos rfl]
  simp only [Oc.zero,yw]
  unfold Oc.fin
  rw [if_pos ?_]
  ·simp
  ·unfold Oc.good ap
   simp [Oc.at,fq,je,lD,cF,aW,gC,bI,fp,du,fh,dQ,ar.ok,bX]
   omega
theorem nn (n:Int) (w:World):Calls xi 36 #[O U n] w (oS w (eU n) (bX n 1 9999)):=by
 have L0:=ai.new w 42 #[F none 0 0,F none 0 0,O U 0,O U 0,O U 0,xh ⟨#[]⟩,xh ⟨#[]⟩,O U 0]
 have b0:=bZ w (.cells #[F none 0 0,F none 0 0,O U 0,O U 0,O U 0,xh ⟨#[]⟩,xh ⟨#[]⟩,O U 0] 42)
 have h0:w.heap.size < (w.alloc (.cells #[F none 0 0,F none 0 0,O U 0,O U 0,O U 0,xh ⟨#[]⟩,xh ⟨#[]⟩,O U 0] 42)).heap.size:=sP
 cases hn:bX n 1 9999
 ·rw [show eU n=Oc.zero from by unfold eU; rw [hn]; rfl]
  go_enter Tryz.func36,Tryz.ntmps36
  go_wp2_with fail
  generalize w.alloc (.cells #[F none 0 0,F none 0 0,O U 0,O U 0,O U 0,xh ⟨#[]⟩,xh ⟨#[]⟩,O U 0] 42)=W at L0 b0 h0 ⊢
  refine (aM n 1 9999 _).mono ?_
  rintro e w' ⟨rfl,rfl⟩
  rw [hn]
  obtain ⟨z0,z1,z2,z3,z4,z5,z6,z7⟩:=cells8 L0
  obtain ⟨f0,f1,f2,f3,f4,f5,f6,f7⟩:=frz8 L0
  have bz:=jZ ((((((((b0.setCell (p:=⟨w.heap.size,0,none⟩) nR (F none 0 0)).setCell (p:=⟨w.heap.size,1,none⟩) nR (F none 0 0)).setCell (p:=⟨w.heap.size,2,none⟩) nR (O U 0)).setCell (p:=⟨w.heap.size,3,none⟩) nR (O U 0)).setCell (p:=⟨w.heap.size,4,none⟩) nR (O U 0)).setCell (p:=⟨w.heap.size,5,none⟩) nR (xh ⟨#[]⟩)).setCell (p:=⟨w.heap.size,6,none⟩) nR (xh ⟨#[]⟩)).setCell (p:=⟨w.heap.size,7,none⟩) nR (O U 0))
  clear L0 b0
  go_wp2
  refine bodyPost_ret (v:=.tuple #[.agg #[F none 0 0,F none 0 0,O U 0,O U 0,O U 0,xh ⟨#[]⟩,xh ⟨#[]⟩,O U 0],.bool false]) (by simp [results,Tryz.results36,go_sem, *]) rfl ?_
  exact ⟨none,0,none,0,rfl,World.ownsRow_nil _ _ _ _,World.ownsRow_nil _ _ _ _,bz.out⟩
 ·rw [show eU n=⟨[⟨1,n⟩],[],n,0,0⟩ from by unfold eU; rw [hn]; rfl]
  go_enter Tryz.func36,Tryz.ntmps36
  go_wp2_with fail
  generalize w.alloc (.cells #[F none 0 0,F none 0 0,O U 0,O U 0,O U 0,xh ⟨#[]⟩,xh ⟨#[]⟩,O U 0] 42)=W at L0 b0 h0 ⊢
  refine (aM n 1 9999 _).mono ?_
  rintro e w' ⟨rfl,rfl⟩
  rw [hn]
  have xo:=bZ W (.cells #[O U 1,O U n] 104)
  have L1:=L0.below xo L0.lt
  have ho:=World.ownsRow_lit (base:=w.heap.size) (e:=104) (size:=2) W #[O U 1,O U n] 1 b0.size dD rfl
  have b1:=b0.trans (xo.mono b0.size)
  obtain ⟨W2,Am⟩ : ∃ W2,W.alloc (.cells #[O U 1,O U n] 104)=W2:=⟨_,rfl⟩
  rw [Am] at L1 ho b1
  generalize hg:W.heap.size=g at ho
  obtain ⟨z0,z1,z2,z3,z4,z5,z6,z7⟩:=cells8 L1
  obtain ⟨f0,f1,f2,f3,f4,f5,f6,f7⟩:=frz8 L1
  have bz:=jZ ((((((((b1.setCell (p:=⟨w.heap.size,0,none⟩) nR (F (some ⟨g,0,none⟩) 1 1)).setCell (p:=⟨w.heap.size,1,none⟩) nR (F none 0 0)).setCell (p:=⟨w.heap.size,2,none⟩) nR (O U n)).setCell (p:=⟨w.heap.size,3,none⟩) nR (O U 0)).setCell (p:=⟨w.heap.size,4,none⟩) nR (O U 0)).setCell (p:=⟨w.heap.size,5,none⟩) nR (xh ⟨#[]⟩)).setCell (p:=⟨w.heap.size,6,none⟩) nR (xh ⟨#[]⟩)).setCell (p:=⟨w.heap.size,7,none⟩) nR (O U 0))
  have hT:=jZ (am (am (am (am (am (am (am (am ho L1 gY 0 (F (some ⟨g,0,none⟩) 1 1)) (L1.set 0 (F (some ⟨g,0,none⟩) 1 1)) gY 1 (F none 0 0)) ((L1.set 0 (F (some ⟨g,0,none⟩) 1 1)).set 1 (F none 0 0)) gY 2 (O U n)) (((L1.set 0 (F (some ⟨g,0,none⟩) 1 1)).set 1 (F none 0 0)).set 2 (O U n)) gY 3 (O U 0)) ((((L1.set 0 (F (some ⟨g,0,none⟩) 1 1)).set 1 (F none 0 0)).set 2 (O U n)).set 3 (O U 0)) gY 4 (O U 0)) (((((L1.set 0 (F (some ⟨g,0,none⟩) 1 1)).set 1 (F none 0 0)).set 2 (O U n)).set 3 (O U 0)).set 4 (O U 0)) gY 5 (xh ⟨#[]⟩)) ((((((L1.set 0 (F (some ⟨g,0,none⟩) 1 1)).set 1 (F none 0 0)).set 2 (O U n)).set 3 (O U 0)).set 4 (O U 0)).set 5 (xh ⟨#[]⟩)) gY 6 (xh ⟨#[]⟩)) (((((((L1.set 0 (F (some ⟨g,0,none⟩) 1 1)).set 1 (F none 0 0)).set 2 (O U n)).set 3 (O U 0)).set 4 (O U 0)).set 5 (xh ⟨#[]⟩)).set 6 (xh ⟨#[]⟩)) gY 7 (O U 0))
  clear L0 b0 L1 b1 xo ho h0
  go_wp2_with (rw [Am]; clear Am; rw [hg])
  refine bodyPost_ret (v:=.tuple #[.agg #[F (some ⟨g,0,none⟩) 1 1,F none 0 0,O U n,O U 0,O U 0,xh ⟨#[]⟩,xh ⟨#[]⟩,O U 0],.bool true]) (by simp [results,Tryz.results36,go_sem, *]) rfl ?_
  exact ⟨some ⟨g,0,none⟩,1,none,0,rfl,hT.out,World.ownsRow_nil _ _ _ _,bz.out⟩
theorem kz (n:Int) (w:World):Calls xi 37 #[O U n] w (oS w (eU n) (bX n 1 9999)):=by
 have L0:=ai.new w 42 #[F none 0 0,F none 0 0,O U 0,O U 0,O U 0,xh ⟨#[]⟩,xh ⟨#[]⟩,O U 0]
 have b0:=bZ w (.cells #[F none 0 0,F none 0 0,O U 0,O U 0,O U 0,xh ⟨#[]⟩,xh ⟨#[]⟩,O U 0] 42)
 have cS:=fun W=>jN (Oc.zero.at none 0 none 0) ⟨1,1,0,n⟩ W ⟨bi.nil _ _ _ _,bi.nil _ _ _ _⟩ nR
 have hD:=pM n
 unfold gy at hD
 simp only [show (Oc.zero.at none 0 none 0).c=Oc.zero from rfl,show ap (Oc.zero.at none 0 none 0)=Oc.zero.good from rfl,hD] at cS
 clear hD
 cases hn:bX n 1 9999
 ·rw [show eU n=Oc.zero from by unfold eU; rw [hn]; rfl]
  rw [hn] at cS
  go_enter Tryz.func37,Tryz.ntmps37
  go_wp2_with fail
  generalize w.alloc (.cells #[F none 0 0,F none 0 0,O U 0,O U 0,O U 0,xh ⟨#[]⟩,xh ⟨#[]⟩,O U 0] 42)=W at L0 b0 ⊢
  refine (cS W).mono ?_
  rintro e W1 ⟨TA,tc,OA,oc,rfl,hT,hO,xp⟩
  simp only [Bool.false_eq_true,if_false,cQ,Option.getD_none,Option.isSome_none,Oc.at,aN.val,Oc.zero,List.length_nil]
  have xo:=(Below.refl W1.heap.size W1).alloc nR (.cells #[F TA 0 tc,F OA 0 oc,O U 0,O U 0,O U 0] 40)
  have b1:=b0.trans ((av xp xo).mono b0.size)
  have L1:=(L0.below xp L0.lt).below xo (jL L0.lt xp.size)
  clear xo xp b0 L0 hT hO
  obtain ⟨z0,z1,z2,z3,z4,z5,z6,z7⟩:=cells8 L1
  obtain ⟨f0,f1,f2,f3,f4,f5,f6,f7⟩:=frz8 L1
  have bz:=jZ ((((((((b1.setCell (p:=⟨w.heap.size,0,none⟩) nR (F none 0 0)).setCell (p:=⟨w.heap.size,1,none⟩) nR (F none 0 0)).setCell (p:=⟨w.heap.size,2,none⟩) nR (O U 0)).setCell (p:=⟨w.heap.size,3,none⟩) nR (O U 0)).setCell (p:=⟨w.heap.size,4,none⟩) nR (O U 0)).setCell (p:=⟨w.heap.size,5,none⟩) nR (xh ⟨#[]⟩)).setCell (p:=⟨w.heap.size,6,none⟩) nR (xh ⟨#[]⟩)).setCell (p:=⟨w.heap.size,7,none⟩) nR (O U 0))
  clear L1 b1
  go_wp2
  refine bodyPost_ret (v:=.tuple #[.agg #[F none 0 0,F none 0 0,O U 0,O U 0,O U 0,xh ⟨#[]⟩,xh ⟨#[]⟩,O U 0],.bool false]) (by simp [results,Tryz.results37,go_sem, *]) rfl ?_
  exact ⟨none,0,none,0,rfl,World.ownsRow_nil _ _ _ _,World.ownsRow_nil _ _ _ _,bz.out⟩
 ·rw [show eU n=⟨[⟨1,n⟩],[],n,0,0⟩ from by unfold eU; rw [hn]; rfl]
  rw [hn] at cS
  go_enter Tryz.func37,Tryz.ntmps37
  go_wp2_with fail
  generalize w.alloc (.cells #[F none 0 0,F none 0 0,O U 0,O U 0,O U 0,xh ⟨#[]⟩,xh ⟨#[]⟩,O U 0] 42)=W at L0 b0 ⊢
  refine (cS W).mono ?_
  rintro e W1 ⟨TA,tc,OA,oc,rfl,hT,hO,xp⟩
  simp only [if_true,cQ,Option.getD_some] at hT hO
  simp only [if_true,cQ,Option.getD_some,Option.isSome_some,Oc.at,aN.val]
  simp only [List.length_cons,List.length_nil,Nat.zero_add] at hT hO ⊢
  have xo:=(Below.refl W1.heap.size W1).alloc nR (.cells #[F TA 1 tc,F OA 0 oc,O U n,O U 0,O U 0] 40)
  have b1:=b0.trans ((av xp xo).mono b0.size)
  have L1:=(L0.below xp L0.lt).below xo (jL L0.lt xp.size)
  have P:=ai.new W1 40 #[F TA 1 tc,F OA 0 oc,O U n,O U 0,O U 0]
  have yy:=ag (ac hT xo) b0.size
  have yz:=ag (ac hO xo) b0.size
  clear xo xp b0 L0 hT hO
  obtain ⟨z0,z1,z2,z3,z4,z5,z6,z7⟩:=cells8 L1
  obtain ⟨f0,f1,f2,f3,f4,f5,f6,f7⟩:=frz8 L1
  obtain ⟨p0,p1,p2,p3,p4⟩:=cells5 P
  have bz:=jZ ((((((((b1.setCell (p:=⟨w.heap.size,0,none⟩) nR (F TA 1 tc)).setCell (p:=⟨w.heap.size,1,none⟩) nR (F OA 0 oc)).setCell (p:=⟨w.heap.size,2,none⟩) nR (O U n)).setCell (p:=⟨w.heap.size,3,none⟩) nR (O U 0)).setCell (p:=⟨w.heap.size,4,none⟩) nR (O U 0)).setCell (p:=⟨w.heap.size,5,none⟩) nR (xh ⟨#[]⟩)).setCell (p:=⟨w.heap.size,6,none⟩) nR (xh ⟨#[]⟩)).setCell (p:=⟨w.heap.size,7,none⟩) nR (O U 0))
  have hT:=jZ (am (am (am (am (am (am (am (am yy L1 gY 0 (F TA 1 tc)) (L1.set 0 (F TA 1 tc)) gY 1 (F OA 0 oc)) ((L1.set 0 (F TA 1 tc)).set 1 (F OA 0 oc)) gY 2 (O U n)) (((L1.set 0 (F TA 1 tc)).set 1 (F OA 0 oc)).set 2 (O U n)) gY 3 (O U 0)) ((((L1.set 0 (F TA 1 tc)).set 1 (F OA 0 oc)).set 2 (O U n)).set 3 (O U 0)) gY 4 (O U 0)) (((((L1.set 0 (F TA 1 tc)).set 1 (F OA 0 oc)).set 2 (O U n)).set 3 (O U 0)).set 4 (O U 0)) gY 5 (xh ⟨#[]⟩)) ((((((L1.set 0 (F TA 1 tc)).set 1 (F OA 0 oc)).set 2 (O U n)).set 3 (O U 0)).set 4 (O U 0)).set 5 (xh ⟨#[]⟩)) gY 6 (xh ⟨#[]⟩)) (((((((L1.set 0 (F TA 1 tc)).set 1 (F OA 0 oc)).set 2 (O U n)).set 3 (O U 0)).set 4 (O U 0)).set 5 (xh ⟨#[]⟩)).set 6 (xh ⟨#[]⟩)) gY 7 (O U 0))
  have hO:=jZ (am (am (am (am (am (am (am (am yz L1 mb 0 (F TA 1 tc)) (L1.set 0 (F TA 1 tc)) mb 1 (F OA 0 oc)) ((L1.set 0 (F TA 1 tc)).set 1 (F OA 0 oc)) mb 2 (O U n)) (((L1.set 0 (F TA 1 tc)).set 1 (F OA 0 oc)).set 2 (O U n)) mb 3 (O U 0)) ((((L1.set 0 (F TA 1 tc)).set 1 (F OA 0 oc)).set 2 (O U n)).set 3 (O U 0)) mb 4 (O U 0)) (((((L1.set 0 (F TA 1 tc)).set 1 (F OA 0 oc)).set 2 (O U n)).set 3 (O U 0)).set 4 (O U 0)) mb 5 (xh ⟨#[]⟩)) ((((((L1.set 0 (F TA 1 tc)).set 1 (F OA 0 oc)).set 2 (O U n)).set 3 (O U 0)).set 4 (O U 0)).set 5 (xh ⟨#[]⟩)) mb 6 (xh ⟨#[]⟩)) (((((((L1.set 0 (F TA 1 tc)).set 1 (F OA 0 oc)).set 2 (O U n)).set 3 (O U 0)).set 4 (O U 0)).set 5 (xh ⟨#[]⟩)).set 6 (xh ⟨#[]⟩)) mb 7 (O U 0))
  clear L1 b1 yy yz P
  go_wp2
  refine bodyPost_ret (v:=.tuple #[.agg #[F TA 1 tc,F OA 0 oc,O U n,O U 0,O U 0,xh ⟨#[]⟩,xh ⟨#[]⟩,O U 0],.bool true]) (by simp [results,Tryz.results37,go_sem, *]) rfl ?_
  exact ⟨TA,tc,OA,oc,rfl,hT.out,hO.out,bz.out⟩
end Go.Proofs.YtoeoimhemojdeaaGreatDoor
