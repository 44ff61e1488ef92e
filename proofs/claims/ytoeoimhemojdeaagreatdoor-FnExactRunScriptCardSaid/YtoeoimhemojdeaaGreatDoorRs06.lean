/- Rs06: the texts SpecV SpecPerA SpecPerB SpecPerC SpecPerD SpecPerE SpecMakA SpecMakB, joined into one file. -/
import Derived.Test.YtoeoimhemojdeaaGreatDoorRs04
import Derived.Test.YtoeoimhemojdeaaGreatDoorRs05

set_option linter.unusedVariables false
open Go.Value renaming int → O, slice → F, string → uk
open Go.IntKind renaming i64 → U

namespace Go.Proofs.YtoeoimhemojdeaaGreatDoor
open Go.RowKit
def fC (w:World) (B:Nat) (y:Oc) (v:Value):Prop :=
 ∃ TA tc OA oc,v=.agg #[F TA y.t.length tc,F OA y.o.length oc,O U y.got,O U y.sold,O U y.missed]∧w.ownsRow B 104 2 (F TA y.t.length tc) y.t.length (y.t.flatMap ap.enc) ∧
  w.ownsRow B 147 3 (F OA y.o.length oc) y.o.length (y.o.flatMap ae.enc)
def n8 (w:World) (y:Oc) (e:Ending) (w' : World):Prop:=∃ v,e=.returned v∧fC w' w.heap.size y v∧Below w.heap.size w w'
theorem fC.below {w w' : World} {B:Nat} {y:Oc} {v:Value} (h:fC w B y v) (hb:Below w.heap.size w w'):fC w' B y v:=by
 obtain ⟨TA,tc,OA,oc,e,h1,h2⟩:=h
 exact ⟨TA,tc,OA,oc,e,ac h1 hb,ac h2 hb⟩
theorem fC.lower {w:World} {B B' : Nat} {y:Oc} {v:Value} (h:fC w B y v) (hB:B'≤B):fC w B' y v:=by
 obtain ⟨TA,tc,OA,oc,e,h1,h2⟩:=h
 exact ⟨TA,tc,OA,oc,e,af h1 hB,af h2 hB⟩
theorem fC.as {w:World} {B:Nat} {y:Oc} {v:Value} (h:fC w B y v):∃ x:aL,v=x.val∧x.c=y∧aM w w.heap.size x∧x.t.length≤x.tc:=by
 obtain ⟨TA,tc,OA,oc,e,h1,h2⟩:=h
 exact ⟨y.at TA tc OA oc,e,rfl,⟨aA h1,aA h2⟩,jb h1⟩
theorem dC.v {w w' : World} {y:Oc} {e:Ending} (h:dC w y e w'):n8 w y e w':=by
 obtain ⟨TA,tc,OA,oc,he,h1,h2,hb⟩:=h
 exact ⟨_,he,⟨TA,tc,OA,oc,rfl,h1,h2⟩,hb⟩
structure jF (y:Oc):Prop where
 tl:y.t.length≤1000000
 ol:y.o.length≤1000000
 tc:∀ t ∈ y.t, -1000000000≤t.c∧t.c≤1000000000
 ok:∀ o ∈ y.o,(1≤o.k∧o.k≤99)∧(1≤o.p∧o.p≤999)
theorem bo.small {x:aL} (G:bo x):jF x.c:=by
 refine ⟨by have:=G.tl; show x.t.length≤_; omega,by have:=G.ol; show x.o.length≤_; omega,fun t ht=>?_,fun o ho=>?_⟩
 ·obtain ⟨j,hj,rfl⟩:=List.getElem_of_mem (show t ∈ x.t from ht)
  have:=(ap.bounds (G.tall j hj)).2
  omega
 ·obtain ⟨j,hj,rfl⟩:=List.getElem_of_mem (show o ∈ x.o from ho)
  have:=ae.bounds (G.oall j hj)
  exact ⟨ei G.tall this.1,this.2.1⟩
theorem bo.tcs {x:aL} (G:bo x):∀ t ∈ x.t,0≤t.c∧t.c≤9999:=fun t ht=>by
 obtain ⟨j,hj,rfl⟩:=List.getElem_of_mem ht
 exact (ap.bounds (G.tall j hj)).2
theorem bo.move_bd {x:aL} (G:bo x) (st pe va:Int):0≤aJ st va (aI st pe 0 x.o)∧aJ st va (aI st pe 0 x.o)≤9999:=by
 rcases kK (k:=st) (p:=va) (aI st pe 0 x.o) with h | ⟨o,ho,_,hc⟩
 ·omega
 ·obtain ⟨j,hj,e⟩:=List.getElem_of_mem ((ew x.o).subset ho)
  have:=(ae.bounds (G.oall j hj)).2.2
  rw [e] at this; omega
theorem rI {k p c:Int} {l:List ae} (hk:1≤k∧k≤99) (hp:1≤p∧p≤999) (h:∀ o ∈ l,(1≤o.k∧o.k≤99)∧(1≤o.p∧o.p≤999)):∀ o ∈ aI k p c l,(1≤o.k∧o.k≤99)∧(1≤o.p∧o.p≤999):=fun o ho=>by
 rcases nP l c o ho with h1 | rfl
 ·exact h o h1
 ·exact ⟨hk,hp⟩
theorem qV {k p:Int} : ∀ (l:List ae) (c:Int),(aI k p c l).length≤l.length+1
 | [],c=>by rw [aI]; split <;> simp
 | o :: l,c=>by
  have h0:=qV (k:=k) (p:=p) l c
  have hz:(aI k p 0 l).length≤l.length:=(ew l).length_le
  rw [aI]
  split
  ·split <;> simp <;> omega
  ·split <;> simp <;> omega
theorem lF (ts:List ap) (kd n:Int):(ai ts kd n).length≤ts.length+1:=by
 have:=jl ts kd
 unfold ai; split
 ·simp
 ·simp; omega
theorem jF.at {y:Oc} (h:jF y) {k p c:Int} (hk:1≤k∧k≤99) (hp:1≤p∧p≤999) (hl:y.o.length≤100):jF ⟨y.t,aI k p c y.o,y.got,y.sold,y.missed⟩ :=
 ⟨h.tl,by have:=qV (k:=k) (p:=p) y.o c; show (aI k p c y.o).length≤_; omega,h.tc,rI hk hp h.ok⟩
theorem jG {ts:List ap} {kd n:Int} (hn : -1000000≤n∧n≤1000000) (h:∀ t ∈ ts, -1000000≤t.c∧t.c≤1000000):∀ t ∈ ai ts kd n, -1000000000≤t.c∧t.c≤1000000000:=by
 intro t ht
 unfold ai at ht
 split at ht
 ·rename_i hx
  rcases List.mem_or_eq_of_mem_set ht with h1 | rfl
  ·have:=h t h1; omega
  ·have hl:=kJ hx
   have:ts.getD (au ts kd).toNat default ∈ ts:=by
    rw [List.getD_eq_getElem?_getD,List.getElem?_eq_getElem hl]; exact List.getElem_mem hl
   have:=h _ this
   simp only; omega
 ·rcases List.mem_append.1 ht with h1 | h1
  ·have:=h t (List.mem_of_mem_take h1); omega
  ·rcases List.mem_cons.1 h1 with rfl | h1
   ·simp only; omega
   ·have:=h t (List.mem_of_mem_drop h1); omega
theorem uc (x:aL) (kd n:Int) (w:World) (h:aM w w.heap.size x) (S:jF x.c) (hn : -1000000000≤n∧n≤1000000000) (hcap:x.t.length≤x.tc) :
  Calls Tryz.prog 173 #[x.val,O U kd,O U n] w (n8 w ⟨ai x.t kd n,x.o,x.got,x.sold,x.missed⟩):=by
 have hb:∀ i (hi:i < x.t.length), -1000000000≤x.t[i].c∧x.t[i].c≤1000000000:=fun i hi=>S.tc _ (List.getElem_mem hi)
 by_cases hx:0≤au x.t kd
 ·exact (rx x kd n w h S.tl S.ol hb hn hx).mono fun _ _ h=>h.v
 ·exact (rz x kd n w h S.tl S.ol hb hn hx hcap).mono fun _ _ h=>h.v
theorem ud (x:aL) (kd pe c:Int) (w:World) (h:aM w w.heap.size x) (S:jF x.c) (hkd:1≤kd∧kd≤99) (hpe:1≤pe∧pe≤999) :
  Calls Tryz.prog 202 #[x.val,O U kd,O U pe,O U c] w (n8 w ⟨x.t,aI kd pe c x.o,x.got,x.sold,x.missed⟩) :=
 (rG x kd pe c w h S.tl S.ol hkd hpe (fun i hi=>S.ok _ (List.getElem_mem hi))).mono fun _ _ h=>h.v
theorem uh {B:Nat} {y:Oc} {v:Value} {w:World} (kd pe c:Int) (h:fC w B y v) (S:jF y) (hkd:1≤kd∧kd≤99) (hpe:1≤pe∧pe≤999) :
  Calls Tryz.prog 202 #[v,O U kd,O U pe,O U c] w (n8 w ⟨y.t,aI kd pe c y.o,y.got,y.sold,y.missed⟩):=by
 obtain ⟨x,rfl,rfl,hr,_⟩:=h.as
 exact ud x kd pe c w hr S hkd hpe
theorem ui {B:Nat} {y:Oc} {v:Value} {w:World} (kd pe:Int) (h:fC w B y v) :
  Calls Tryz.prog 201 #[v,O U kd,O U pe] w fun e w'=>e=.returned (O U (aJ kd pe y.o))∧Below w.heap.size w w':=by
 obtain ⟨x,rfl,rfl,hr,_⟩:=h.as
 exact fB x kd pe w hr
theorem sQ {B:Nat} {y:Oc} {v:Value} {w:World} (h:fC w B y v) :
  Calls Tryz.prog 82 #[v] w fun e w'=>e=.returned (.bool y.good)∧Below w.heap.size w w':=by
 obtain ⟨x,rfl,rfl,hr,_⟩:=h.as
 exact dA x w hr
def qW (w:World) (B g:Nat) (y:Oc):Prop:=∃ TA tc OA oc,az w B g (F TA y.t.length tc) (F OA y.o.length oc) y
theorem qW.then {w w' : World} {B g:Nat} {y:Oc} (h:qW w B g y) (hb:Below w.heap.size w w'):qW w' B g y:=by
 obtain ⟨TA,tc,OA,oc,h⟩:=h; exact ⟨TA,tc,OA,oc,h.then hb⟩
theorem fC.store {w:World} {B g:Nat} {y:Oc} {TA OA:Option Addr} {tc oc:Nat} {a b c d e:Value} (h1:w.ownsRow B 104 2 (F TA y.t.length tc) y.t.length (y.t.flatMap ap.enc)) (h2:w.ownsRow B 147 3 (F OA y.o.length oc) y.o.length (y.o.flatMap ae.enc))
  (hL:ah w g 40 [a,b,c,d,e]) (hB:B≤g):qW (dh w g (F TA y.t.length tc) (F OA y.o.length oc) (O U y.got) (O U y.sold) (O U y.missed)) B g y :=
 ⟨TA,tc,OA,oc,fp hL,hB,aV hL h1 cy,aV hL h2 cR⟩
theorem cq.of {w w' : World} {R:Oc × Bool} {e:Ending} {TA OA:Option Addr} {tc oc:Nat} (he:e=.returned (.tuple #[.agg #[F TA R.1.t.length tc,F OA R.1.o.length oc,O U R.1.got,O U R.1.sold,O U R.1.missed],.bool R.2])) {g:Nat}
  (h:az w' w.heap.size g (F TA R.1.t.length tc) (F OA R.1.o.length oc) R.1) (hb:Below w.heap.size w w'):cq w R e w':=⟨TA,tc,OA,oc,he,h.t,h.o,hb⟩
theorem Sw.lies {s g gr:Nat} {t:TypeId} {cs:List Value} {W1 w:World} {C1:World→Prop} {L:Nat→Bool} (h:Sw s (fun W9=>Below W1.heap.size W1 W9) C1 L w)
  (hC1:∀ W,C1 W→∃ W8 v0 v1 v2 v3 v4,Below W1.heap.size W1 W8∧W=dh W8 gr v0 v1 v2 v3 v4) (hL:ah W1 g t cs) (hne:g ≠ gr):ah w g t cs:=by
 unfold Sw at h
 split at h
 ·obtain ⟨W8,v0,v1,v2,v3,v4,hb,rfl⟩:=hC1 _ h
  exact o9 (hL.below hb hL.lt) hne
 ·exact hL.below h hL.lt
set_option maxRecDepth 100000 in
set_option maxHeartbeats 4000000 in
theorem pf (x:aL) (st pe va:Int) (w:World) (h:aM w w.heap.size x) (G:bo x) (hcap:x.t.length≤x.tc) (hst:1≤st∧st≤99) (hpe:1≤pe∧pe≤999) (hva:1≤va∧va≤9999) :
  Calls Tryz.prog 175 #[x.val,.agg #[O U 2,O U st,O U pe,O U va]] w (cq w ((⟨ai x.t st (-va),aI st pe (aJ st pe x.o+va) x.o,x.got,x.sold,x.missed⟩ : Oc),true)):=by
 have L1:=((ah.new w 40 #[F x.TA x.t.length x.tc,F x.OA x.o.length x.oc,O U x.got,O U x.sold,O U x.missed]).alloc (.cells #[O U 2,O U st,O U pe,O U va] 112)).alloc (.cells #[F none 0 0,F none 0 0,O U 0,O U 0,O U 0] 40)
 have L2:=(ah.new1 w (.cells #[F x.TA x.t.length x.tc,F x.OA x.o.length x.oc,O U x.got,O U x.sold,O U x.missed] 40) 112 #[O U 2,O U st,O U pe,O U va]).alloc (.cells #[F none 0 0,F none 0 0,O U 0,O U 0,O U 0] 40)
 have L3:=ah.new2 w (.cells #[F x.TA x.t.length x.tc,F x.OA x.o.length x.oc,O U x.got,O U x.sold,O U x.missed] 40) (.cells #[O U 2,O U st,O U pe,O U va] 112) 40 #[F none 0 0,F none 0 0,O U 0,O U 0,O U 0]
 have b1:=(Below.refl w.heap.size w).alloc (Nat.le_refl _) (.cells #[F x.TA x.t.length x.tc,F x.OA x.o.length x.oc,O U x.got,O U x.sold,O U x.missed] 40)
 have b2:=b1.alloc b1.size (.cells #[O U 2,O U st,O U pe,O U va] 112)
 have b3:=b2.alloc b2.size (.cells #[F none 0 0,F none 0 0,O U 0,O U 0,O U 0] 40)
 have Sx:=G.small
 have htl:=G.tl
 have hol:=G.ol
 have htc:=G.tcs
 obtain ⟨m1,m2⟩:=G.m
 obtain ⟨g1,g2⟩:=G.s
 obtain ⟨n1,n2⟩:=G.at_bd st pe
 obtain ⟨n,hn⟩ : ∃ n,aJ st pe x.o=n:=⟨_,rfl⟩
 rw [hn] at n1 n2 ⊢
 clear b1 b2 G
 go_enter Tryz.func175,Tryz.ntmps175
 go_wp2_with fail
 generalize (((w.alloc (.cells #[F x.TA x.t.length x.tc,F x.OA x.o.length x.oc,O U x.got,O U x.sold,O U x.missed] 40)).alloc (.cells #[O U 2,O U st,O U pe,O U va] 112)).alloc (.cells #[F none 0 0,F none 0 0,O U 0,O U 0,O U 0] 40))=W at L1 L2 L3 b3 ⊢
 have hR:=h.up b3 (Nat.le_refl _)
 refine (fB x st pe W hR).mono ?_
 rintro e W1 ⟨rfl,hb1⟩
 rw [hn]
 have hR1:=hR.then hb1
 have L1a:=L1.below hb1 L1.lt
 have L2a:=L2.below hb1 L2.lt
 have L3a:=L3.below hb1 L3.lt
 have b4:=b3.trans (hb1.mono b3.size)
 have hW0:w.heap.size≤W1.heap.size:=b4.size
 have hn:=Lib.hid hn
 clear L1 L2 L3 b3 hb1 hR h
 obtain ⟨c0,c1,c2,c3,c4⟩:=cells5 L1a
 obtain ⟨s0,s1,s2,s3⟩:=cells4 L2a
 obtain ⟨v1,v2⟩:=hva
 have S1:jF (⟨ai x.t st (-va),x.o,x.got,x.sold,x.missed⟩ : Oc):=⟨by have:=lF x.t st (-va); show (ai x.t st (-va)).length≤_; omega,Sx.ol,jG (by omega) (fun t ht=>by have:=htc t ht; omega),Sx.ok⟩
 go_wp2
 obtain ⟨D1,hD1⟩ : ∃ D:World→Prop,D=(fun W9=>∃ W8 TA tc OA oc,Below W1.heap.size W1 W8∧W8.ownsRow w.heap.size 104 2 (F TA ((⟨ai x.t st (-va),aI st pe (n+va) x.o,x.got,x.sold,x.missed⟩ : Oc)).t.length tc) ((⟨ai x.t st (-va),aI st pe (n+va) x.o,x.got,x.sold,x.missed⟩ : Oc)).t.length (((⟨ai x.t st (-va),aI st pe (n+va) x.o,x.got,x.sold,x.missed⟩ : Oc)).t.flatMap ap.enc)∧W8.ownsRow w.heap.size 147 3 (F OA ((⟨ai x.t st (-va),aI st pe (n+va) x.o,x.got,x.sold,x.missed⟩ : Oc)).o.length oc) ((⟨ai x.t st (-va),aI st pe (n+va) x.o,x.got,x.sold,x.missed⟩ : Oc)).o.length (((⟨ai x.t st (-va),aI st pe (n+va) x.o,x.got,x.sold,x.missed⟩ : Oc)).o.flatMap ae.enc)∧W9=dh W8 (w.heap.size+1+1) (F TA ((⟨ai x.t st (-va),aI st pe (n+va) x.o,x.got,x.sold,x.missed⟩ : Oc)).t.length tc) (F OA ((⟨ai x.t st (-va),aI st pe (n+va) x.o,x.got,x.sold,x.missed⟩ : Oc)).o.length oc) (O U ((⟨ai x.t st (-va),aI st pe (n+va) x.o,x.got,x.sold,x.missed⟩ : Oc)).got) (O U ((⟨ai x.t st (-va),aI st pe (n+va) x.o,x.got,x.sold,x.missed⟩ : Oc)).sold) (O U ((⟨ai x.t st (-va),aI st pe (n+va) x.o,x.got,x.sold,x.missed⟩ : Oc)).missed)):=⟨_,rfl⟩
 have hDL:∀ W,D1 W→∃ W8 v0 v1 v2 v3 v4,Below W1.heap.size W1 W8∧W=dh W8 (w.heap.size+1+1) v0 v1 v2 v3 v4:=by
  rw [hD1]
  rintro _ ⟨W8,TA,tc,OA,oc,hq,_,_,e⟩
  exact ⟨W8,_,_,_,_,_,hq,e⟩
 have HD1:=Lib.hid hD1; clear hD1
 refine am (Sw 16 (fun W9=>Below W1.heap.size W1 W9) D1) (fun i w1 w2=>i ∉ [16]→Below w1.heap.size w1 w2) (by kernel_rfl) (by kernel_rfl) (by kernel_rfl) (Sw.start (Below.refl _ _).drew) ?_
 simp only [aw,Act.put,List.setIfInBounds_toArray,List.set_cons_zero,List.set_cons_succ,Nat.zero_add,Nat.reduceAdd]
 apply aa
 case h1 =>
  intro vs L9 w9 hG9 hC9 hB K9 hK9
  replace hC9:=sb hC9 hG9
  have q0:w9.cell? ⟨w.heap.size,0,none⟩=some (F x.TA x.t.length x.tc):=(L1a.below hC9 L1a.lt).cell 0
  have q1:w9.cell? ⟨w.heap.size,1,none⟩=some (F x.OA x.o.length x.oc):=(L1a.below hC9 L1a.lt).cell 1
  have q2:w9.cell? ⟨w.heap.size,2,none⟩=some (O U x.got):=(L1a.below hC9 L1a.lt).cell 2
  have q3:w9.cell? ⟨w.heap.size,3,none⟩=some (O U x.sold):=(L1a.below hC9 L1a.lt).cell 3
  have q4:w9.cell? ⟨w.heap.size,4,none⟩=some (O U x.missed):=(L1a.below hC9 L1a.lt).cell 4
  simp only [Act.put,sA,s0,s1] at hK9
  go_simp
  exact hK9 _ _ rfl (sy hG9 hC9) bR
 apply aa
 case h1 =>
  intro vs L9 w9 hG9 hC9 hB K9 hK9
  replace hC9:=sb hC9 hG9
  simp only [Act.put,sA,s0,s1] at hK9
  go_simp
  exact hK9 _ _ rfl (sy hG9 hC9) bR
 apply aa
 case h1 =>
  intro vs L9 w9 hG9 hC9 hB K9 hK9
  replace hC9:=sb hC9 hG9
  have d1:=fe hB 1
  simp only [d1] at hK9 ⊢
  have q0:w9.cell? ⟨(w.heap.size+1),1,none⟩=some (O U st):=(L2a.below hC9 L2a.lt).cell 1
  simp only [Act.put,sA,s0,s1] at hK9
  go_simp
  exact hK9 _ _ rfl (sy hG9 hC9) bR
 apply aa
 case h1 =>
  intro vs L9 w9 hG9 hC9 hB K9 hK9
  replace hC9:=sb hC9 hG9
  simp only [Act.put,sA,s0,s1] at hK9
  go_simp
  exact hK9 _ _ rfl (sy hG9 hC9) bR
 apply aa
 case h1 =>
  intro vs L9 w9 hG9 hC9 hB K9 hK9
  replace hC9:=sb hC9 hG9
  have d3:=fe hB 3
  simp only [d3] at hK9 ⊢
  have q0:w9.cell? ⟨(w.heap.size+1),3,none⟩=some (O U va):=(L2a.below hC9 L2a.lt).cell 3
  simp only [Act.put,sA,s0,s1] at hK9
  go_simp
  exact hK9 _ _ rfl (sy hG9 hC9) bR
 apply aa
 case h1 =>
  intro vs L9 w9 hG9 hC9 hB K9 hK9
  replace hC9:=sb hC9 hG9
  have d4:=fe hB 4
  simp only [d4] at hK9 ⊢
  have i3:IntKind.i64.wrap (-va) = -va:=IntWalk.i64_in _ (by omega)
  simp only [Act.put,sA,s0,s1] at hK9
  go_simp
  exact hK9 _ _ rfl (sy hG9 hC9) bR
 refine ak [16] (fun v w9=>fC w9 w.heap.size (⟨ai x.t st (-va),x.o,x.got,x.sold,x.missed⟩ : Oc) v) ?ss6 (fun vs L9 w9 hG9 hC9 hB K9 hK9=>?hs6) ?rs6
 case ss6 =>
  intro i9 hi9 hb9 ha9 v w1 w2 hv hT9
  have hb:=hT9 (fun hm=>by
   simp only [List.mem_cons,List.not_mem_nil,or_false] at hm hb9
   subst hm
   ·exact hb9 (by simp))
  exact hv.below hb
 case hs6 =>
  replace hC9:=sb hC9 hG9
  have d0:=fe hB 0
  have d2:=fe hB 2
  have d5:=fe hB 5
  simp only [d0,d2,d5] at hK9 ⊢
  simp only [Act.put,sA,s0,s1] at hK9
  go_simp
  refine (uc x st (-va) _ (hR1.then hC9) Sx (by omega) hcap).mono ?_
  rintro en w8 ⟨v8,rfl,hv8,hb8⟩
  exact hK9 _ _ _ rfl (hv8.lower (Nat.le_trans hW0 hC9.size)) (Sw.stay hG9 (by kernel_rfl) (by decide) (hC9.trans (hb8.mono hC9.size))) (fun _=>hb8)
 apply aa
 case h1 =>
  intro vs L9 w9 hG9 hC9 hB K9 hK9
  replace hC9:=sb hC9 hG9
  simp only [Act.put,sA,s0,s1] at hK9
  go_simp
  exact hK9 _ _ rfl (sy hG9 hC9) bR
 apply aa
 case h1 =>
  intro vs L9 w9 hG9 hC9 hB K9 hK9
  replace hC9:=sb hC9 hG9
  have d7:=fe hB 7
  simp only [d7] at hK9 ⊢
  have q0:w9.cell? ⟨(w.heap.size+1),1,none⟩=some (O U st):=(L2a.below hC9 L2a.lt).cell 1
  simp only [Act.put,sA,s0,s1] at hK9
  go_simp
  exact hK9 _ _ rfl (sy hG9 hC9) bR
 apply aa
 case h1 =>
  intro vs L9 w9 hG9 hC9 hB K9 hK9
  replace hC9:=sb hC9 hG9
  simp only [Act.put,sA,s0,s1] at hK9
  go_simp
  exact hK9 _ _ rfl (sy hG9 hC9) bR
 apply aa
 case h1 =>
  intro vs L9 w9 hG9 hC9 hB K9 hK9
  replace hC9:=sb hC9 hG9
  have d9:=fe hB 9
  simp only [d9] at hK9 ⊢
  have q0:w9.cell? ⟨(w.heap.size+1),2,none⟩=some (O U pe):=(L2a.below hC9 L2a.lt).cell 2
  simp only [Act.put,sA,s0,s1] at hK9
  go_simp
  exact hK9 _ _ rfl (sy hG9 hC9) bR
 apply aa
 case h1 =>
  intro vs L9 w9 hG9 hC9 hB K9 hK9
  replace hC9:=sb hC9 hG9
  simp only [Act.put,sA,s0,s1] at hK9
  go_simp
  exact hK9 _ _ rfl (sy hG9 hC9) bR
 apply aa
 case h1 =>
  intro vs L9 w9 hG9 hC9 hB K9 hK9
  replace hC9:=sb hC9 hG9
  simp only [Act.put,sA,s0,s1] at hK9
  go_simp
  exact hK9 _ _ rfl (sy hG9 hC9) bR
 apply aa
 case h1 =>
  intro vs L9 w9 hG9 hC9 hB K9 hK9
  replace hC9:=sb hC9 hG9
  have d12:=fe hB 12
  simp only [d12] at hK9 ⊢
  have q0:w9.cell? ⟨(w.heap.size+1),3,none⟩=some (O U va):=(L2a.below hC9 L2a.lt).cell 3
  simp only [Act.put,sA,s0,s1] at hK9
  go_simp
  exact hK9 _ _ rfl (sy hG9 hC9) bR
 apply aa
 case h1 =>
  intro vs L9 w9 hG9 hC9 hB K9 hK9
  replace hC9:=sb hC9 hG9
  have d11:=fe hB 11
  have d13:=fe hB 13
  simp only [d11,d13] at hK9 ⊢
  have i3:IntKind.i64.wrap (n+va)=n+va:=IntWalk.i64_in _ (by omega)
  simp only [Act.put,sA,s0,s1] at hK9
  go_simp
  exact hK9 _ _ rfl (sy hG9 hC9) bR
 refine ak [16] (fun v w9=>fC w9 w.heap.size (⟨ai x.t st (-va),aI st pe (n+va) x.o,x.got,x.sold,x.missed⟩ : Oc) v) ?ss15 (fun vs L9 w9 hG9 hC9 hB K9 hK9=>?hs15) ?rs15
 case ss15 =>
  intro i9 hi9 hb9 ha9 v w1 w2 hv hT9
  have hb:=hT9 (fun hm=>by
   simp only [List.mem_cons,List.not_mem_nil,or_false] at hm hb9
   subst hm
   ·exact hb9 (by simp))
  exact hv.below hb
 case hs15 =>
  replace hC9:=sb hC9 hG9
  have d8:=fe hB 8
  have d10:=fe hB 10
  have d14:=fe hB 14
  simp only [d8,d10,d14] at hK9 ⊢
  simp only [Act.put,sA,s0,s1] at hK9
  have h6:=fs hB 6
  go_simp
  refine (uh st pe (n+va) h6 S1 hst hpe).mono ?_
  rintro en w8 ⟨v8,rfl,hv8,hb8⟩
  exact hK9 _ _ _ rfl (hv8.lower (Nat.le_trans hW0 hC9.size)) (Sw.stay hG9 (by kernel_rfl) (by decide) (hC9.trans (hb8.mono hC9.size))) (fun _=>hb8)
 refine aa (undef) (fun vs L9 w9 hG9 hC9 hB K9 hK9=>?hs16) ?rs16
 case hs16 =>
  replace hC9:=hC9.here hG9
  obtain ⟨TA,tc,OA,oc,e15,h1,h2⟩:=fs hB 15
  simp only [e15] at hK9 ⊢
  have Lr:=L3a.below hC9 L3a.lt
  obtain ⟨z0,z1,z2,z3,z4⟩:=cells5 Lr
  obtain ⟨f0,f1,f2,f3,f4⟩:=frz5 Lr
  have h1:=Lib.hid h1
  have h2:=Lib.hid h2
  clear Lr
  go_simp
  exact hK9 _ _ rfl (Sw.turn (by rw [HD1.out]; exact ⟨w9,TA,tc,OA,oc,hC9,h1.out,h2.out,rfl⟩)) (fun hq=>(hq (by decide)).elim)
 apply aa
 case h1 =>
  intro vs L9 w9 hG9 hC9 hB K9 hK9
  replace hC9:=hC9.after hG9 (by kernel_rfl)
  simp only [Act.put,sA,s0,s1] at hK9
  go_simp
  exact hK9 _ _ rfl (Sw.on hG9 (by kernel_rfl) hC9) bR
 refine ax fun vs L9 w9 hL9 hC9 hB=>?_
 replace hC9:=hC9.done hL9 (by decide)
 have dl:=ag.eq (hB 17 _ rfl rfl (by decide))
 simp only [dl]
 clear hB dl
 rw [HD1.out] at hC9
 obtain ⟨W8,TA,tc,OA,oc,hb8,h1,h2,rfl⟩:=hC9
 have Lr:=L3a.below hb8 L3a.lt
 have bz:=(b4.trans (hb8.mono b4.size)).trans (bI (v0:=F TA ((⟨ai x.t st (-va),aI st pe (n+va) x.o,x.got,x.sold,x.missed⟩ : Oc)).t.length tc) (v1:=F OA ((⟨ai x.t st (-va),aI st pe (n+va) x.o,x.got,x.sold,x.missed⟩ : Oc)).o.length oc) (v2:=O U ((⟨ai x.t st (-va),aI st pe (n+va) x.o,x.got,x.sold,x.missed⟩ : Oc)).got) (v3:=O U ((⟨ai x.t st (-va),aI st pe (n+va) x.o,x.got,x.sold,x.missed⟩ : Oc)).sold) (v4:=O U ((⟨ai x.t st (-va),aI st pe (n+va) x.o,x.got,x.sold,x.missed⟩ : Oc)).missed) Lr (show w.heap.size≤(w.heap.size+1+1) by omega))
 have HT:=Lib.hid (aV (v0:=F TA ((⟨ai x.t st (-va),aI st pe (n+va) x.o,x.got,x.sold,x.missed⟩ : Oc)).t.length tc) (v1:=F OA ((⟨ai x.t st (-va),aI st pe (n+va) x.o,x.got,x.sold,x.missed⟩ : Oc)).o.length oc) (v2:=O U ((⟨ai x.t st (-va),aI st pe (n+va) x.o,x.got,x.sold,x.missed⟩ : Oc)).got) (v3:=O U ((⟨ai x.t st (-va),aI st pe (n+va) x.o,x.got,x.sold,x.missed⟩ : Oc)).sold) (v4:=O U ((⟨ai x.t st (-va),aI st pe (n+va) x.o,x.got,x.sold,x.missed⟩ : Oc)).missed) Lr h1 cy)
 have HO:=Lib.hid (aV (v0:=F TA ((⟨ai x.t st (-va),aI st pe (n+va) x.o,x.got,x.sold,x.missed⟩ : Oc)).t.length tc) (v1:=F OA ((⟨ai x.t st (-va),aI st pe (n+va) x.o,x.got,x.sold,x.missed⟩ : Oc)).o.length oc) (v2:=O U ((⟨ai x.t st (-va),aI st pe (n+va) x.o,x.got,x.sold,x.missed⟩ : Oc)).got) (v3:=O U ((⟨ai x.t st (-va),aI st pe (n+va) x.o,x.got,x.sold,x.missed⟩ : Oc)).sold) (v4:=O U ((⟨ai x.t st (-va),aI st pe (n+va) x.o,x.got,x.sold,x.missed⟩ : Oc)).missed) Lr h2 cR)
 have PR:=fp (v0:=F TA ((⟨ai x.t st (-va),aI st pe (n+va) x.o,x.got,x.sold,x.missed⟩ : Oc)).t.length tc) (v1:=F OA ((⟨ai x.t st (-va),aI st pe (n+va) x.o,x.got,x.sold,x.missed⟩ : Oc)).o.length oc) (v2:=O U ((⟨ai x.t st (-va),aI st pe (n+va) x.o,x.got,x.sold,x.missed⟩ : Oc)).got) (v3:=O U ((⟨ai x.t st (-va),aI st pe (n+va) x.o,x.got,x.sold,x.missed⟩ : Oc)).sold) (v4:=O U ((⟨ai x.t st (-va),aI st pe (n+va) x.o,x.got,x.sold,x.missed⟩ : Oc)).missed) Lr
 generalize dh W8 (w.heap.size+1+1) (F TA ((⟨ai x.t st (-va),aI st pe (n+va) x.o,x.got,x.sold,x.missed⟩ : Oc)).t.length tc) (F OA ((⟨ai x.t st (-va),aI st pe (n+va) x.o,x.got,x.sold,x.missed⟩ : Oc)).o.length oc) (O U ((⟨ai x.t st (-va),aI st pe (n+va) x.o,x.got,x.sold,x.missed⟩ : Oc)).got) (O U ((⟨ai x.t st (-va),aI st pe (n+va) x.o,x.got,x.sold,x.missed⟩ : Oc)).sold) (O U ((⟨ai x.t st (-va),aI st pe (n+va) x.o,x.got,x.sold,x.missed⟩ : Oc)).missed)=W9 at bz HT HO PR ⊢
 obtain ⟨k0,k1,k2,k3,k4⟩:=cells5 PR
 clear h1 h2 Lr hb8 hL9 PR
 go_wp2
 refine bodyPost_ret (v:=.tuple #[.agg #[F TA ((⟨ai x.t st (-va),aI st pe (n+va) x.o,x.got,x.sold,x.missed⟩ : Oc)).t.length tc,F OA ((⟨ai x.t st (-va),aI st pe (n+va) x.o,x.got,x.sold,x.missed⟩ : Oc)).o.length oc,O U ((⟨ai x.t st (-va),aI st pe (n+va) x.o,x.got,x.sold,x.missed⟩ : Oc)).got,O U ((⟨ai x.t st (-va),aI st pe (n+va) x.o,x.got,x.sold,x.missed⟩ : Oc)).sold,O U ((⟨ai x.t st (-va),aI st pe (n+va) x.o,x.got,x.sold,x.missed⟩ : Oc)).missed],.bool true]) (by simp [results,Tryz.results175,go_sem, *]) rfl ?_
 exact ⟨TA,tc,OA,oc,rfl,HT.out,HO.out,bz⟩
set_option maxRecDepth 100000 in
set_option maxHeartbeats 4000000 in
theorem pg (x:aL) (st pe va:Int) (w:World) (h:aM w w.heap.size x) (G:bo x) (hcap:x.t.length≤x.tc) (hst:1≤st∧st≤99) (hpe:1≤pe∧pe≤999) (hva:1≤va∧va≤9999) :
  Calls Tryz.prog 175 #[x.val,.agg #[O U 3,O U st,O U pe,O U va]] w (cq w ((⟨ai x.t st va,aI st pe (aJ st pe x.o - va) x.o,x.got,x.sold,x.missed⟩ : Oc),decide (va≤aJ st pe x.o))):=by
 have L1:=((ah.new w 40 #[F x.TA x.t.length x.tc,F x.OA x.o.length x.oc,O U x.got,O U x.sold,O U x.missed]).alloc (.cells #[O U 3,O U st,O U pe,O U va] 112)).alloc (.cells #[F none 0 0,F none 0 0,O U 0,O U 0,O U 0] 40)
 have L2:=(ah.new1 w (.cells #[F x.TA x.t.length x.tc,F x.OA x.o.length x.oc,O U x.got,O U x.sold,O U x.missed] 40) 112 #[O U 3,O U st,O U pe,O U va]).alloc (.cells #[F none 0 0,F none 0 0,O U 0,O U 0,O U 0] 40)
 have L3:=ah.new2 w (.cells #[F x.TA x.t.length x.tc,F x.OA x.o.length x.oc,O U x.got,O U x.sold,O U x.missed] 40) (.cells #[O U 3,O U st,O U pe,O U va] 112) 40 #[F none 0 0,F none 0 0,O U 0,O U 0,O U 0]
 have b1:=(Below.refl w.heap.size w).alloc (Nat.le_refl _) (.cells #[F x.TA x.t.length x.tc,F x.OA x.o.length x.oc,O U x.got,O U x.sold,O U x.missed] 40)
 have b2:=b1.alloc b1.size (.cells #[O U 3,O U st,O U pe,O U va] 112)
 have b3:=b2.alloc b2.size (.cells #[F none 0 0,F none 0 0,O U 0,O U 0,O U 0] 40)
 have Sx:=G.small
 have htl:=G.tl
 have hol:=G.ol
 have htc:=G.tcs
 obtain ⟨m1,m2⟩:=G.m
 obtain ⟨g1,g2⟩:=G.s
 obtain ⟨n1,n2⟩:=G.at_bd st pe
 obtain ⟨n,hn⟩ : ∃ n,aJ st pe x.o=n:=⟨_,rfl⟩
 rw [hn] at n1 n2 ⊢
 clear b1 b2 G
 go_enter Tryz.func175,Tryz.ntmps175
 go_wp2_with fail
 generalize (((w.alloc (.cells #[F x.TA x.t.length x.tc,F x.OA x.o.length x.oc,O U x.got,O U x.sold,O U x.missed] 40)).alloc (.cells #[O U 3,O U st,O U pe,O U va] 112)).alloc (.cells #[F none 0 0,F none 0 0,O U 0,O U 0,O U 0] 40))=W at L1 L2 L3 b3 ⊢
 have hR:=h.up b3 (Nat.le_refl _)
 refine (fB x st pe W hR).mono ?_
 rintro e W1 ⟨rfl,hb1⟩
 rw [hn]
 have hR1:=hR.then hb1
 have L1a:=L1.below hb1 L1.lt
 have L2a:=L2.below hb1 L2.lt
 have L3a:=L3.below hb1 L3.lt
 have b4:=b3.trans (hb1.mono b3.size)
 have hW0:w.heap.size≤W1.heap.size:=b4.size
 have hn:=Lib.hid hn
 clear L1 L2 L3 b3 hb1 hR h
 obtain ⟨c0,c1,c2,c3,c4⟩:=cells5 L1a
 obtain ⟨s0,s1,s2,s3⟩:=cells4 L2a
 obtain ⟨v1,v2⟩:=hva
 have S1:jF (⟨ai x.t st va,x.o,x.got,x.sold,x.missed⟩ : Oc):=⟨by have:=lF x.t st va; show (ai x.t st va).length≤_; omega,Sx.ol,jG (by omega) (fun t ht=>by have:=htc t ht; omega),Sx.ok⟩
 go_wp2
 obtain ⟨D1,hD1⟩ : ∃ D:World→Prop,D=(fun W9=>∃ W8 TA tc OA oc,Below W1.heap.size W1 W8∧W8.ownsRow w.heap.size 104 2 (F TA ((⟨ai x.t st va,aI st pe (n - va) x.o,x.got,x.sold,x.missed⟩ : Oc)).t.length tc) ((⟨ai x.t st va,aI st pe (n - va) x.o,x.got,x.sold,x.missed⟩ : Oc)).t.length (((⟨ai x.t st va,aI st pe (n - va) x.o,x.got,x.sold,x.missed⟩ : Oc)).t.flatMap ap.enc)∧W8.ownsRow w.heap.size 147 3 (F OA ((⟨ai x.t st va,aI st pe (n - va) x.o,x.got,x.sold,x.missed⟩ : Oc)).o.length oc) ((⟨ai x.t st va,aI st pe (n - va) x.o,x.got,x.sold,x.missed⟩ : Oc)).o.length (((⟨ai x.t st va,aI st pe (n - va) x.o,x.got,x.sold,x.missed⟩ : Oc)).o.flatMap ae.enc)∧W9=dh W8 (w.heap.size+1+1) (F TA ((⟨ai x.t st va,aI st pe (n - va) x.o,x.got,x.sold,x.missed⟩ : Oc)).t.length tc) (F OA ((⟨ai x.t st va,aI st pe (n - va) x.o,x.got,x.sold,x.missed⟩ : Oc)).o.length oc) (O U ((⟨ai x.t st va,aI st pe (n - va) x.o,x.got,x.sold,x.missed⟩ : Oc)).got) (O U ((⟨ai x.t st va,aI st pe (n - va) x.o,x.got,x.sold,x.missed⟩ : Oc)).sold) (O U ((⟨ai x.t st va,aI st pe (n - va) x.o,x.got,x.sold,x.missed⟩ : Oc)).missed)):=⟨_,rfl⟩
 have hDL:∀ W,D1 W→∃ W8 v0 v1 v2 v3 v4,Below W1.heap.size W1 W8∧W=dh W8 (w.heap.size+1+1) v0 v1 v2 v3 v4:=by
  rw [hD1]
  rintro _ ⟨W8,TA,tc,OA,oc,hq,_,_,e⟩
  exact ⟨W8,_,_,_,_,_,hq,e⟩
 have HD1:=Lib.hid hD1; clear hD1
 refine am (Sw 19 (fun W9=>Below W1.heap.size W1 W9) D1) (fun i w1 w2=>i ∉ [19]→Below w1.heap.size w1 w2) (by kernel_rfl) (by kernel_rfl) (by kernel_rfl) (Sw.start (Below.refl _ _).drew) ?_
 simp only [aw,Act.put,List.setIfInBounds_toArray,List.set_cons_zero,List.set_cons_succ,Nat.zero_add,Nat.reduceAdd]
 apply aa
 case h1 =>
  intro vs L9 w9 hG9 hC9 hB K9 hK9
  replace hC9:=sb hC9 hG9
  have q0:w9.cell? ⟨w.heap.size,0,none⟩=some (F x.TA x.t.length x.tc):=(L1a.below hC9 L1a.lt).cell 0
  have q1:w9.cell? ⟨w.heap.size,1,none⟩=some (F x.OA x.o.length x.oc):=(L1a.below hC9 L1a.lt).cell 1
  have q2:w9.cell? ⟨w.heap.size,2,none⟩=some (O U x.got):=(L1a.below hC9 L1a.lt).cell 2
  have q3:w9.cell? ⟨w.heap.size,3,none⟩=some (O U x.sold):=(L1a.below hC9 L1a.lt).cell 3
  have q4:w9.cell? ⟨w.heap.size,4,none⟩=some (O U x.missed):=(L1a.below hC9 L1a.lt).cell 4
  simp only [Act.put,sA,s0,s1] at hK9
  go_simp
  exact hK9 _ _ rfl (sy hG9 hC9) bR
 apply aa
 case h1 =>
  intro vs L9 w9 hG9 hC9 hB K9 hK9
  replace hC9:=sb hC9 hG9
  simp only [Act.put,sA,s0,s1] at hK9
  go_simp
  exact hK9 _ _ rfl (sy hG9 hC9) bR
 apply aa
 case h1 =>
  intro vs L9 w9 hG9 hC9 hB K9 hK9
  replace hC9:=sb hC9 hG9
  have d1:=fe hB 1
  simp only [d1] at hK9 ⊢
  have q0:w9.cell? ⟨(w.heap.size+1),1,none⟩=some (O U st):=(L2a.below hC9 L2a.lt).cell 1
  simp only [Act.put,sA,s0,s1] at hK9
  go_simp
  exact hK9 _ _ rfl (sy hG9 hC9) bR
 apply aa
 case h1 =>
  intro vs L9 w9 hG9 hC9 hB K9 hK9
  replace hC9:=sb hC9 hG9
  simp only [Act.put,sA,s0,s1] at hK9
  go_simp
  exact hK9 _ _ rfl (sy hG9 hC9) bR
 apply aa
 case h1 =>
  intro vs L9 w9 hG9 hC9 hB K9 hK9
  replace hC9:=sb hC9 hG9
  have d3:=fe hB 3
  simp only [d3] at hK9 ⊢
  have q0:w9.cell? ⟨(w.heap.size+1),3,none⟩=some (O U va):=(L2a.below hC9 L2a.lt).cell 3
  simp only [Act.put,sA,s0,s1] at hK9
  go_simp
  exact hK9 _ _ rfl (sy hG9 hC9) bR
 refine ak [19] (fun v w9=>fC w9 w.heap.size (⟨ai x.t st va,x.o,x.got,x.sold,x.missed⟩ : Oc) v) ?sb5 (fun vs L9 w9 hG9 hC9 hB K9 hK9=>?hb5) ?rb5
 case sb5 =>
  intro i9 hi9 hb9 ha9 v w1 w2 hv hT9
  have hb:=hT9 (fun hm=>by
   simp only [List.mem_cons,List.not_mem_nil,or_false] at hm hb9
   subst hm
   ·exact hb9 (by simp))
  exact hv.below hb
 case hb5 =>
  replace hC9:=sb hC9 hG9
  have d0:=fe hB 0
  have d2:=fe hB 2
  have d4:=fe hB 4
  simp only [d0,d2,d4] at hK9 ⊢
  simp only [Act.put,sA,s0,s1] at hK9
  go_simp
  refine (uc x st va _ (hR1.then hC9) Sx (by omega) hcap).mono ?_
  rintro en w8 ⟨v8,rfl,hv8,hb8⟩
  exact hK9 _ _ _ rfl (hv8.lower (Nat.le_trans hW0 hC9.size)) (Sw.stay hG9 (by kernel_rfl) (by decide) (hC9.trans (hb8.mono hC9.size))) (fun _=>hb8)
 apply aa
 case h1 =>
  intro vs L9 w9 hG9 hC9 hB K9 hK9
  replace hC9:=sb hC9 hG9
  simp only [Act.put,sA,s0,s1] at hK9
  go_simp
  exact hK9 _ _ rfl (sy hG9 hC9) bR
 apply aa
 case h1 =>
  intro vs L9 w9 hG9 hC9 hB K9 hK9
  replace hC9:=sb hC9 hG9
  have d6:=fe hB 6
  simp only [d6] at hK9 ⊢
  have q0:w9.cell? ⟨(w.heap.size+1),1,none⟩=some (O U st):=(L2a.below hC9 L2a.lt).cell 1
  simp only [Act.put,sA,s0,s1] at hK9
  go_simp
  exact hK9 _ _ rfl (sy hG9 hC9) bR
 apply aa
 case h1 =>
  intro vs L9 w9 hG9 hC9 hB K9 hK9
  replace hC9:=sb hC9 hG9
  simp only [Act.put,sA,s0,s1] at hK9
  go_simp
  exact hK9 _ _ rfl (sy hG9 hC9) bR
 apply aa
 case h1 =>
  intro vs L9 w9 hG9 hC9 hB K9 hK9
  replace hC9:=sb hC9 hG9
  have d8:=fe hB 8
  simp only [d8] at hK9 ⊢
  have q0:w9.cell? ⟨(w.heap.size+1),2,none⟩=some (O U pe):=(L2a.below hC9 L2a.lt).cell 2
  simp only [Act.put,sA,s0,s1] at hK9
  go_simp
  exact hK9 _ _ rfl (sy hG9 hC9) bR
 apply aa
 case h1 =>
  intro vs L9 w9 hG9 hC9 hB K9 hK9
  replace hC9:=sb hC9 hG9
  simp only [Act.put,sA,s0,s1] at hK9
  go_simp
  exact hK9 _ _ rfl (sy hG9 hC9) bR
 apply aa
 case h1 =>
  intro vs L9 w9 hG9 hC9 hB K9 hK9
  replace hC9:=sb hC9 hG9
  simp only [Act.put,sA,s0,s1] at hK9
  go_simp
  exact hK9 _ _ rfl (sy hG9 hC9) bR
 apply aa
 case h1 =>
  intro vs L9 w9 hG9 hC9 hB K9 hK9
  replace hC9:=sb hC9 hG9
  have d11:=fe hB 11
  simp only [d11] at hK9 ⊢
  have q0:w9.cell? ⟨(w.heap.size+1),3,none⟩=some (O U va):=(L2a.below hC9 L2a.lt).cell 3
  simp only [Act.put,sA,s0,s1] at hK9
  go_simp
  exact hK9 _ _ rfl (sy hG9 hC9) bR
 apply aa
 case h1 =>
  intro vs L9 w9 hG9 hC9 hB K9 hK9
  replace hC9:=sb hC9 hG9
  have d10:=fe hB 10
  have d12:=fe hB 12
  simp only [d10,d12] at hK9 ⊢
  have i3:IntKind.i64.wrap (n - va)=n - va:=IntWalk.i64_in _ (by omega)
  simp only [Act.put,sA,s0,s1] at hK9
  go_simp
  exact hK9 _ _ rfl (sy hG9 hC9) bR
 refine ak [19] (fun v w9=>fC w9 w.heap.size (⟨ai x.t st va,aI st pe (n - va) x.o,x.got,x.sold,x.missed⟩ : Oc) v) ?sb14 (fun vs L9 w9 hG9 hC9 hB K9 hK9=>?hb14) ?rb14
 case sb14 =>
  intro i9 hi9 hb9 ha9 v w1 w2 hv hT9
  have hb:=hT9 (fun hm=>by
   simp only [List.mem_cons,List.not_mem_nil,or_false] at hm hb9
   subst hm
   ·exact hb9 (by simp))
  exact hv.below hb
 case hb14 =>
  replace hC9:=sb hC9 hG9
  have d7:=fe hB 7
  have d9:=fe hB 9
  have d13:=fe hB 13
  simp only [d7,d9,d13] at hK9 ⊢
  simp only [Act.put,sA,s0,s1] at hK9
  have h6:=fs hB 5
  go_simp
  refine (uh st pe (n - va) h6 S1 hst hpe).mono ?_
  rintro en w8 ⟨v8,rfl,hv8,hb8⟩
  exact hK9 _ _ _ rfl (hv8.lower (Nat.le_trans hW0 hC9.size)) (Sw.stay hG9 (by kernel_rfl) (by decide) (hC9.trans (hb8.mono hC9.size))) (fun _=>hb8)
 apply aa
 case h1 =>
  intro vs L9 w9 hG9 hC9 hB K9 hK9
  simp only [Act.put,sA,s0,s1] at hK9
  have HC9:=Lib.hid hC9
  clear hC9
  go_simp
  exact hK9 _ _ rfl (Sw.both (by decide) (fun h=>h) (fun h=>h) HC9.out) bR
 apply aa
 case h1 =>
  intro vs L9 w9 hG9 hC9 hB K9 hK9
  simp only [Act.put,sA,s0,s1] at hK9
  have HC9:=Lib.hid hC9
  clear hC9
  go_simp
  exact hK9 _ _ rfl (Sw.both (by decide) (fun h=>h) (fun h=>h) HC9.out) bR
 apply aa
 case h1 =>
  intro vs L9 w9 hG9 hC9 hB K9 hK9
  have d16:=fe hB 16
  simp only [d16] at hK9 ⊢
  have q0:w9.cell? ⟨(w.heap.size+1),3,none⟩=some (O U va):=(hC9.lies hDL L2a (by omega)).cell 3
  simp only [Act.put,sA,s0,s1] at hK9
  have HC9:=Lib.hid hC9
  clear hC9
  go_simp
  exact hK9 _ _ rfl (Sw.both (by decide) (fun h=>h) (fun h=>h) HC9.out) bR
 apply aa
 case h1 =>
  intro vs L9 w9 hG9 hC9 hB K9 hK9
  have d15:=fe hB 15
  have d17:=fe hB 17
  simp only [d15,d17] at hK9 ⊢
  simp only [Act.put,sA,s0,s1] at hK9
  have HC9:=Lib.hid hC9
  clear hC9
  go_simp
  exact hK9 _ _ rfl (Sw.both (by decide) (fun h=>h) (fun h=>h) HC9.out) bR
 refine aa (undef) (fun vs L9 w9 hG9 hC9 hB K9 hK9=>?hb19) ?rb19
 case hb19 =>
  replace hC9:=hC9.here hG9
  obtain ⟨TA,tc,OA,oc,e15,h1,h2⟩:=fs hB 14
  simp only [e15] at hK9 ⊢
  have Lr:=L3a.below hC9 L3a.lt
  obtain ⟨z0,z1,z2,z3,z4⟩:=cells5 Lr
  obtain ⟨f0,f1,f2,f3,f4⟩:=frz5 Lr
  have h1:=Lib.hid h1
  have h2:=Lib.hid h2
  clear Lr
  go_simp
  exact hK9 _ _ rfl (Sw.turn (by rw [HD1.out]; exact ⟨w9,TA,tc,OA,oc,hC9,h1.out,h2.out,rfl⟩)) (fun hq=>(hq (by decide)).elim)
 apply aa
 case h1 =>
  intro vs L9 w9 hG9 hC9 hB K9 hK9
  replace hC9:=hC9.after hG9 (by kernel_rfl)
  have d18:=fe hB 18
  simp only [d18] at hK9 ⊢
  simp only [Act.put,sA,s0,s1] at hK9
  go_simp
  exact hK9 _ _ rfl (Sw.on hG9 (by kernel_rfl) hC9) bR
 refine ax fun vs L9 w9 hL9 hC9 hB=>?_
 replace hC9:=hC9.done hL9 (by decide)
 have dl:=ag.eq (hB 20 _ rfl rfl (by decide))
 simp only [dl]
 clear hB dl
 rw [HD1.out] at hC9
 obtain ⟨W8,TA,tc,OA,oc,hb8,h1,h2,rfl⟩:=hC9
 have Lr:=L3a.below hb8 L3a.lt
 have bz:=(b4.trans (hb8.mono b4.size)).trans (bI (v0:=F TA ((⟨ai x.t st va,aI st pe (n - va) x.o,x.got,x.sold,x.missed⟩ : Oc)).t.length tc) (v1:=F OA ((⟨ai x.t st va,aI st pe (n - va) x.o,x.got,x.sold,x.missed⟩ : Oc)).o.length oc) (v2:=O U ((⟨ai x.t st va,aI st pe (n - va) x.o,x.got,x.sold,x.missed⟩ : Oc)).got) (v3:=O U ((⟨ai x.t st va,aI st pe (n - va) x.o,x.got,x.sold,x.missed⟩ : Oc)).sold) (v4:=O U ((⟨ai x.t st va,aI st pe (n - va) x.o,x.got,x.sold,x.missed⟩ : Oc)).missed) Lr (show w.heap.size≤(w.heap.size+1+1) by omega))
 have HT:=Lib.hid (aV (v0:=F TA ((⟨ai x.t st va,aI st pe (n - va) x.o,x.got,x.sold,x.missed⟩ : Oc)).t.length tc) (v1:=F OA ((⟨ai x.t st va,aI st pe (n - va) x.o,x.got,x.sold,x.missed⟩ : Oc)).o.length oc) (v2:=O U ((⟨ai x.t st va,aI st pe (n - va) x.o,x.got,x.sold,x.missed⟩ : Oc)).got) (v3:=O U ((⟨ai x.t st va,aI st pe (n - va) x.o,x.got,x.sold,x.missed⟩ : Oc)).sold) (v4:=O U ((⟨ai x.t st va,aI st pe (n - va) x.o,x.got,x.sold,x.missed⟩ : Oc)).missed) Lr h1 cy)
 have HO:=Lib.hid (aV (v0:=F TA ((⟨ai x.t st va,aI st pe (n - va) x.o,x.got,x.sold,x.missed⟩ : Oc)).t.length tc) (v1:=F OA ((⟨ai x.t st va,aI st pe (n - va) x.o,x.got,x.sold,x.missed⟩ : Oc)).o.length oc) (v2:=O U ((⟨ai x.t st va,aI st pe (n - va) x.o,x.got,x.sold,x.missed⟩ : Oc)).got) (v3:=O U ((⟨ai x.t st va,aI st pe (n - va) x.o,x.got,x.sold,x.missed⟩ : Oc)).sold) (v4:=O U ((⟨ai x.t st va,aI st pe (n - va) x.o,x.got,x.sold,x.missed⟩ : Oc)).missed) Lr h2 cR)
 have PR:=fp (v0:=F TA ((⟨ai x.t st va,aI st pe (n - va) x.o,x.got,x.sold,x.missed⟩ : Oc)).t.length tc) (v1:=F OA ((⟨ai x.t st va,aI st pe (n - va) x.o,x.got,x.sold,x.missed⟩ : Oc)).o.length oc) (v2:=O U ((⟨ai x.t st va,aI st pe (n - va) x.o,x.got,x.sold,x.missed⟩ : Oc)).got) (v3:=O U ((⟨ai x.t st va,aI st pe (n - va) x.o,x.got,x.sold,x.missed⟩ : Oc)).sold) (v4:=O U ((⟨ai x.t st va,aI st pe (n - va) x.o,x.got,x.sold,x.missed⟩ : Oc)).missed) Lr
 generalize dh W8 (w.heap.size+1+1) (F TA ((⟨ai x.t st va,aI st pe (n - va) x.o,x.got,x.sold,x.missed⟩ : Oc)).t.length tc) (F OA ((⟨ai x.t st va,aI st pe (n - va) x.o,x.got,x.sold,x.missed⟩ : Oc)).o.length oc) (O U ((⟨ai x.t st va,aI st pe (n - va) x.o,x.got,x.sold,x.missed⟩ : Oc)).got) (O U ((⟨ai x.t st va,aI st pe (n - va) x.o,x.got,x.sold,x.missed⟩ : Oc)).sold) (O U ((⟨ai x.t st va,aI st pe (n - va) x.o,x.got,x.sold,x.missed⟩ : Oc)).missed)=W9 at bz HT HO PR ⊢
 obtain ⟨k0,k1,k2,k3,k4⟩:=cells5 PR
 clear h1 h2 Lr hb8 hL9 PR
 go_wp2
 refine bodyPost_ret (v:=.tuple #[.agg #[F TA ((⟨ai x.t st va,aI st pe (n - va) x.o,x.got,x.sold,x.missed⟩ : Oc)).t.length tc,F OA ((⟨ai x.t st va,aI st pe (n - va) x.o,x.got,x.sold,x.missed⟩ : Oc)).o.length oc,O U ((⟨ai x.t st va,aI st pe (n - va) x.o,x.got,x.sold,x.missed⟩ : Oc)).got,O U ((⟨ai x.t st va,aI st pe (n - va) x.o,x.got,x.sold,x.missed⟩ : Oc)).sold,O U ((⟨ai x.t st va,aI st pe (n - va) x.o,x.got,x.sold,x.missed⟩ : Oc)).missed],.bool (decide (va≤n))]) (by simp [results,Tryz.results175,go_sem, *]) rfl ?_
 exact ⟨TA,tc,OA,oc,rfl,HT.out,HO.out,bz⟩
set_option maxRecDepth 100000 in
set_option maxHeartbeats 4000000 in
theorem ph (x:aL) (st pe va:Int) (w:World) (h:aM w w.heap.size x) (G:bo x) (hcap:x.t.length≤x.tc) (hst:1≤st∧st≤99) (hpe:1≤pe∧pe≤999) :
  Calls Tryz.prog 175 #[x.val,.agg #[O U 5,O U st,O U pe,O U va]] w (cq w ((⟨x.t,aI st pe 0 x.o,x.got,x.sold,x.missed+aJ st pe x.o⟩ : Oc),decide (0 < aJ st pe x.o))):=by
 have L1:=((ah.new w 40 #[F x.TA x.t.length x.tc,F x.OA x.o.length x.oc,O U x.got,O U x.sold,O U x.missed]).alloc (.cells #[O U 5,O U st,O U pe,O U va] 112)).alloc (.cells #[F none 0 0,F none 0 0,O U 0,O U 0,O U 0] 40)
 have L2:=(ah.new1 w (.cells #[F x.TA x.t.length x.tc,F x.OA x.o.length x.oc,O U x.got,O U x.sold,O U x.missed] 40) 112 #[O U 5,O U st,O U pe,O U va]).alloc (.cells #[F none 0 0,F none 0 0,O U 0,O U 0,O U 0] 40)
 have L3:=ah.new2 w (.cells #[F x.TA x.t.length x.tc,F x.OA x.o.length x.oc,O U x.got,O U x.sold,O U x.missed] 40) (.cells #[O U 5,O U st,O U pe,O U va] 112) 40 #[F none 0 0,F none 0 0,O U 0,O U 0,O U 0]
 have b1:=(Below.refl w.heap.size w).alloc (Nat.le_refl _) (.cells #[F x.TA x.t.length x.tc,F x.OA x.o.length x.oc,O U x.got,O U x.sold,O U x.missed] 40)
 have b2:=b1.alloc b1.size (.cells #[O U 5,O U st,O U pe,O U va] 112)
 have b3:=b2.alloc b2.size (.cells #[F none 0 0,F none 0 0,O U 0,O U 0,O U 0] 40)
 have Sx:=G.small
 have htl:=G.tl
 have hol:=G.ol
 have htc:=G.tcs
 obtain ⟨m1,m2⟩:=G.m
 obtain ⟨g1,g2⟩:=G.s
 obtain ⟨n1,n2⟩:=G.at_bd st pe
 obtain ⟨n,hn⟩ : ∃ n,aJ st pe x.o=n:=⟨_,rfl⟩
 rw [hn] at n1 n2 ⊢
 clear b1 b2 G
 go_enter Tryz.func175,Tryz.ntmps175
 go_wp2_with fail
 generalize (((w.alloc (.cells #[F x.TA x.t.length x.tc,F x.OA x.o.length x.oc,O U x.got,O U x.sold,O U x.missed] 40)).alloc (.cells #[O U 5,O U st,O U pe,O U va] 112)).alloc (.cells #[F none 0 0,F none 0 0,O U 0,O U 0,O U 0] 40))=W at L1 L2 L3 b3 ⊢
 have hR:=h.up b3 (Nat.le_refl _)
 refine (fB x st pe W hR).mono ?_
 rintro e W1 ⟨rfl,hb1⟩
 rw [hn]
 have hR1:=hR.then hb1
 have L1a:=L1.below hb1 L1.lt
 have L2a:=L2.below hb1 L2.lt
 have L3a:=L3.below hb1 L3.lt
 have b4:=b3.trans (hb1.mono b3.size)
 have hW0:w.heap.size≤W1.heap.size:=b4.size
 have hn:=Lib.hid hn
 clear L1 L2 L3 b3 hb1 hR h
 obtain ⟨c0,c1,c2,c3,c4⟩:=cells5 L1a
 obtain ⟨s0,s1,s2,s3⟩:=cells4 L2a
 have i4:IntKind.i64.wrap (x.missed+n)=x.missed+n:=IntWalk.i64_in _ (by omega)
 go_wp2_with fail
 refine (ud x st pe (0) W1 hR1 Sx hst hpe).mono ?_
 rintro e W2 ⟨v2,rfl,⟨TA,tc,OA,oc,hv2,hT,hO⟩,hb2⟩
 have hv2:v2=.agg #[F TA x.t.length tc,F OA (aI st pe (0) x.o).length oc,O U x.got,O U x.sold,O U x.missed]:=hv2
 subst hv2
 simp only at hT hO
 have hal:=(Below.refl W2.heap.size W2).alloc (Nat.le_refl _) (.cells #[F TA x.t.length tc,F OA (aI st pe (0) x.o).length oc,O U x.got,O U x.sold,O U x.missed] 40)
 have L1b:=(L1a.below hb2 L1a.lt).below hal (Nat.lt_of_lt_of_le L1a.lt hb2.size)
 have L2b:=(L2a.below hb2 L2a.lt).below hal (Nat.lt_of_lt_of_le L2a.lt hb2.size)
 have L3b:=(L3a.below hb2 L3a.lt).below hal (Nat.lt_of_lt_of_le L3a.lt hb2.size)
 have P:=ah.new W2 40 #[F TA x.t.length tc,F OA (aI st pe (0) x.o).length oc,O U x.got,O U x.sold,O U x.missed]
 have hT3:=af (ac hT hal) hW0
 have hO3:=af (ac hO hal) hW0
 have b5:=b4.trans ((aq hb2 hal).mono b4.size)
 have hR5:=(hR1.then hb2).then hal
 have hgg:w.heap.size+1+1 < W2.heap.size:=Nat.lt_of_lt_of_le L3a.lt hb2.size
 clear c0 c1 c2 c3 c4 s0 s1 s2 s3
 obtain ⟨W3,hW3⟩ : ∃ W3,W2.alloc (.cells #[F TA x.t.length tc,F OA (aI st pe (0) x.o).length oc,O U x.got,O U x.sold,O U x.missed] 40)=W3:=⟨_,rfl⟩
 rw [hW3] at L1b L2b L3b P hT3 hO3 b5 hR5
 generalize hg2:W2.heap.size=g2 at P hgg
 obtain ⟨c0,c1,c2,c3,c4⟩:=cells5 L1b
 obtain ⟨s0,s1,s2,s3⟩:=cells4 L2b
 obtain ⟨p0,p1,p2,p3,p4⟩:=cells5 P
 obtain ⟨pf0,pf1,pf2,pf3,pf4⟩:=frz5 P
 have P4:=P.set 4 (O U (x.missed+n))
 have L1c:=L1b.other (p:=⟨g2,4,none⟩) (by simp; omega) (O U (x.missed+n))
 have L2c:=L2b.other (p:=⟨g2,4,none⟩) (by simp; omega) (O U (x.missed+n))
 have L3c:=L3b.other (p:=⟨g2,4,none⟩) (by simp; omega) (O U (x.missed+n))
 have hT4:=aF hT3 P cy 4 (O U (x.missed+n))
 have hO4:=aF hO3 P cR 4 (O U (x.missed+n))
 have b6:=b5.setCell (p:=⟨g2,4,none⟩) (show w.heap.size≤g2 by omega) (O U (x.missed+n))
 simp only [List.set_cons_zero,List.set_cons_succ] at P4
 obtain ⟨W4,hW4⟩ : ∃ W4,W3.setCell ⟨g2,4,none⟩ (O U (x.missed+n))=W4:=⟨_,rfl⟩
 rw [hW4] at P4 L1c L2c L3c hT4 hO4 b6
 clear hR5 hb2 hal hT hO L1a L2a L3a b4 hR1
 obtain ⟨k0,k1,k2,k3,k4⟩:=cells5 P4
 obtain ⟨z0,z1,z2,z3,z4⟩:=cells5 L3c
 obtain ⟨f0,f1,f2,f3,f4⟩:=frz5 L3c
 have bz:=b6.trans (bI (v0:=F TA x.t.length tc) (v1:=F OA (aI st pe (0) x.o).length oc) (v2:=O U x.got) (v3:=O U x.sold) (v4:=O U (x.missed+n)) L3c (show w.heap.size≤w.heap.size+1+1 by omega))
 have HT:=Lib.hid (aV (v0:=F TA x.t.length tc) (v1:=F OA (aI st pe (0) x.o).length oc) (v2:=O U x.got) (v3:=O U x.sold) (v4:=O U (x.missed+n)) L3c hT4 cy)
 have HO:=Lib.hid (aV (v0:=F TA x.t.length tc) (v1:=F OA (aI st pe (0) x.o).length oc) (v2:=O U x.got) (v3:=O U x.sold) (v4:=O U (x.missed+n)) L3c hO4 cR)
 go_wp2_with (first | (rw [hW3]; clear hW3; rw [hg2]) | (rw [hW4]; clear hW4))
 clear c0 c1 c2 c3 c4 s0 s1 s2 s3 p0 p1 p2 p3 p4 pf0 pf1 pf2 pf3 pf4
 refine bodyPost_ret (v:=.tuple #[.agg #[F TA x.t.length tc,F OA (aI st pe (0) x.o).length oc,O U x.got,O U x.sold,O U (x.missed+n)],.bool (decide (0 < n))]) (by simp [results,Tryz.results175,go_sem, *]) rfl ?_
 exact ⟨TA,tc,OA,oc,rfl,HT.out,HO.out,bz⟩
set_option maxRecDepth 100000 in
set_option maxHeartbeats 4000000 in
theorem pi (x:aL) (st pe va:Int) (w:World) (h:aM w w.heap.size x) (G:bo x) (hcap:x.t.length≤x.tc) (hst:1≤st∧st≤99) (hpe:1≤pe∧pe≤999) (hva:1≤va∧va≤999) :
  Calls Tryz.prog 175 #[x.val,.agg #[O U 6,O U st,O U pe,O U va]] w (cq w ((⟨x.t,aI st va (aJ st va (aI st pe 0 x.o)+aJ st pe x.o) (aI st pe 0 x.o),x.got,x.sold,x.missed⟩ : Oc),decide (0 < aJ st pe x.o) && decide (va ≠ pe))):=by
 have L1:=((ah.new w 40 #[F x.TA x.t.length x.tc,F x.OA x.o.length x.oc,O U x.got,O U x.sold,O U x.missed]).alloc (.cells #[O U 6,O U st,O U pe,O U va] 112)).alloc (.cells #[F none 0 0,F none 0 0,O U 0,O U 0,O U 0] 40)
 have L2:=(ah.new1 w (.cells #[F x.TA x.t.length x.tc,F x.OA x.o.length x.oc,O U x.got,O U x.sold,O U x.missed] 40) 112 #[O U 6,O U st,O U pe,O U va]).alloc (.cells #[F none 0 0,F none 0 0,O U 0,O U 0,O U 0] 40)
 have L3:=ah.new2 w (.cells #[F x.TA x.t.length x.tc,F x.OA x.o.length x.oc,O U x.got,O U x.sold,O U x.missed] 40) (.cells #[O U 6,O U st,O U pe,O U va] 112) 40 #[F none 0 0,F none 0 0,O U 0,O U 0,O U 0]
 have b1:=(Below.refl w.heap.size w).alloc (Nat.le_refl _) (.cells #[F x.TA x.t.length x.tc,F x.OA x.o.length x.oc,O U x.got,O U x.sold,O U x.missed] 40)
 have b2:=b1.alloc b1.size (.cells #[O U 6,O U st,O U pe,O U va] 112)
 have b3:=b2.alloc b2.size (.cells #[F none 0 0,F none 0 0,O U 0,O U 0,O U 0] 40)
 have Sx:=G.small
 have htl:=G.tl
 have hol:=G.ol
 have htc:=G.tcs
 obtain ⟨m1,m2⟩:=G.m
 obtain ⟨g1,g2⟩:=G.s
 obtain ⟨n1,n2⟩:=G.at_bd st pe
 obtain ⟨m,hm⟩ : ∃ m,aJ st va (aI st pe 0 x.o)=m:=⟨_,rfl⟩
 have hmb:0≤m∧m≤9999:=by rw [← hm]; exact G.move_bd st pe va
 rw [hm]
 have HM:=Lib.hid hm; clear hm
 obtain ⟨q1,q2⟩:=hmb
 obtain ⟨n,hn⟩ : ∃ n,aJ st pe x.o=n:=⟨_,rfl⟩
 rw [hn] at n1 n2 ⊢
 clear b1 b2 G
 go_enter Tryz.func175,Tryz.ntmps175
 go_wp2_with fail
 generalize (((w.alloc (.cells #[F x.TA x.t.length x.tc,F x.OA x.o.length x.oc,O U x.got,O U x.sold,O U x.missed] 40)).alloc (.cells #[O U 6,O U st,O U pe,O U va] 112)).alloc (.cells #[F none 0 0,F none 0 0,O U 0,O U 0,O U 0] 40))=W at L1 L2 L3 b3 ⊢
 have hR:=h.up b3 (Nat.le_refl _)
 refine (fB x st pe W hR).mono ?_
 rintro e W1 ⟨rfl,hb1⟩
 rw [hn]
 have hR1:=hR.then hb1
 have L1a:=L1.below hb1 L1.lt
 have L2a:=L2.below hb1 L2.lt
 have L3a:=L3.below hb1 L3.lt
 have b4:=b3.trans (hb1.mono b3.size)
 have hW0:w.heap.size≤W1.heap.size:=b4.size
 have hn:=Lib.hid hn
 clear L1 L2 L3 b3 hb1 hR h
 obtain ⟨c0,c1,c2,c3,c4⟩:=cells5 L1a
 obtain ⟨s0,s1,s2,s3⟩:=cells4 L2a
 have S1:jF (⟨x.t,aI st pe 0 x.o,x.got,x.sold,x.missed⟩ : Oc):=Sx.at hst hpe (by show x.o.length≤100; omega)
 go_wp2_with fail
 refine (ud x st pe (0) W1 hR1 Sx hst hpe).mono ?_
 rintro e W2 ⟨v2,rfl,⟨TA,tc,OA,oc,hv2,hT,hO⟩,hb2⟩
 have hv2:v2=.agg #[F TA x.t.length tc,F OA (aI st pe (0) x.o).length oc,O U x.got,O U x.sold,O U x.missed]:=hv2
 subst hv2
 simp only at hT hO
 have hal:=(Below.refl W2.heap.size W2).alloc (Nat.le_refl _) (.cells #[F TA x.t.length tc,F OA (aI st pe (0) x.o).length oc,O U x.got,O U x.sold,O U x.missed] 40)
 have L1b:=(L1a.below hb2 L1a.lt).below hal (Nat.lt_of_lt_of_le L1a.lt hb2.size)
 have L2b:=(L2a.below hb2 L2a.lt).below hal (Nat.lt_of_lt_of_le L2a.lt hb2.size)
 have L3b:=(L3a.below hb2 L3a.lt).below hal (Nat.lt_of_lt_of_le L3a.lt hb2.size)
 have P:=ah.new W2 40 #[F TA x.t.length tc,F OA (aI st pe (0) x.o).length oc,O U x.got,O U x.sold,O U x.missed]
 have hT3:=af (ac hT hal) hW0
 have hO3:=af (ac hO hal) hW0
 have b5:=b4.trans ((aq hb2 hal).mono b4.size)
 have hR5:=(hR1.then hb2).then hal
 have hgg:w.heap.size+1+1 < W2.heap.size:=Nat.lt_of_lt_of_le L3a.lt hb2.size
 clear c0 c1 c2 c3 c4 s0 s1 s2 s3
 obtain ⟨W3,hW3⟩ : ∃ W3,W2.alloc (.cells #[F TA x.t.length tc,F OA (aI st pe (0) x.o).length oc,O U x.got,O U x.sold,O U x.missed] 40)=W3:=⟨_,rfl⟩
 rw [hW3] at L1b L2b L3b P hT3 hO3 b5 hR5
 generalize hg2:W2.heap.size=g2 at P hgg
 obtain ⟨c0,c1,c2,c3,c4⟩:=cells5 L1b
 obtain ⟨s0,s1,s2,s3⟩:=cells4 L2b
 obtain ⟨p0,p1,p2,p3,p4⟩:=cells5 P
 obtain ⟨pf0,pf1,pf2,pf3,pf4⟩:=frz5 P
 clear hb2 hal hT hO L1a L2a L3a b4 hR1
 go_wp2_with (rw [hW3]; clear hW3; rw [hg2])
 clear c0 c1 c2 c3 c4 s0 s1 s2 s3 p0 p1 p2 p3 p4 pf0 pf1 pf2 pf3 pf4
 obtain ⟨b,hbd⟩ : ∃ b,decide (0 < n)=b:=⟨_,rfl⟩
 have HBD:=Lib.hid hbd; clear hbd
 obtain ⟨D1,hD1⟩ : ∃ D:World→Prop,D=(fun W9=>∃ W8 TA tc OA oc,Below W3.heap.size W3 W8∧W8.ownsRow w.heap.size 104 2 (F TA ((⟨x.t,aI st va (m+n) (aI st pe 0 x.o),x.got,x.sold,x.missed⟩ : Oc)).t.length tc) ((⟨x.t,aI st va (m+n) (aI st pe 0 x.o),x.got,x.sold,x.missed⟩ : Oc)).t.length (((⟨x.t,aI st va (m+n) (aI st pe 0 x.o),x.got,x.sold,x.missed⟩ : Oc)).t.flatMap ap.enc)∧W8.ownsRow w.heap.size 147 3 (F OA ((⟨x.t,aI st va (m+n) (aI st pe 0 x.o),x.got,x.sold,x.missed⟩ : Oc)).o.length oc) ((⟨x.t,aI st va (m+n) (aI st pe 0 x.o),x.got,x.sold,x.missed⟩ : Oc)).o.length (((⟨x.t,aI st va (m+n) (aI st pe 0 x.o),x.got,x.sold,x.missed⟩ : Oc)).o.flatMap ae.enc)∧W9=dh W8 (w.heap.size+1+1) (F TA ((⟨x.t,aI st va (m+n) (aI st pe 0 x.o),x.got,x.sold,x.missed⟩ : Oc)).t.length tc) (F OA ((⟨x.t,aI st va (m+n) (aI st pe 0 x.o),x.got,x.sold,x.missed⟩ : Oc)).o.length oc) (O U ((⟨x.t,aI st va (m+n) (aI st pe 0 x.o),x.got,x.sold,x.missed⟩ : Oc)).got) (O U ((⟨x.t,aI st va (m+n) (aI st pe 0 x.o),x.got,x.sold,x.missed⟩ : Oc)).sold) (O U ((⟨x.t,aI st va (m+n) (aI st pe 0 x.o),x.got,x.sold,x.missed⟩ : Oc)).missed)):=⟨_,rfl⟩
 have hDL:∀ W,D1 W→∃ W8 v0 v1 v2 v3 v4,Below W3.heap.size W3 W8∧W=dh W8 (w.heap.size+1+1) v0 v1 v2 v3 v4:=by
  rw [hD1]
  rintro _ ⟨W8,TA,tc,OA,oc,hq,_,_,e⟩
  exact ⟨W8,_,_,_,_,_,hq,e⟩
 have HD1:=Lib.hid hD1; clear hD1
 refine am (Sw 23 (fun W9=>Below W3.heap.size W3 W9) D1) (fun i w1 w2=>i ∉ [23]→Below w1.heap.size w1 w2) (by kernel_rfl) (by kernel_rfl) (by kernel_rfl) (Sw.start (Below.refl _ _).drew) ?_
 simp only [aw,Act.put,List.setIfInBounds_toArray,List.set_cons_zero,List.set_cons_succ,Nat.zero_add,Nat.reduceAdd]
 apply aa
 case h1 =>
  intro vs L9 w9 hG9 hC9 hB K9 hK9
  replace hC9:=sb hC9 hG9
  have q0:w9.cell? ⟨g2,0,none⟩=some (F TA x.t.length tc):=(P.below hC9 P.lt).cell 0
  have q1:w9.cell? ⟨g2,1,none⟩=some (F OA (aI st pe (0) x.o).length oc):=(P.below hC9 P.lt).cell 1
  have q2:w9.cell? ⟨g2,2,none⟩=some (O U x.got):=(P.below hC9 P.lt).cell 2
  have q3:w9.cell? ⟨g2,3,none⟩=some (O U x.sold):=(P.below hC9 P.lt).cell 3
  have q4:w9.cell? ⟨g2,4,none⟩=some (O U x.missed):=(P.below hC9 P.lt).cell 4
  simp only [Act.put,sA,s0,s1] at hK9
  go_simp
  exact hK9 _ _ rfl (sy hG9 hC9) bR
 apply aa
 case h1 =>
  intro vs L9 w9 hG9 hC9 hB K9 hK9
  replace hC9:=sb hC9 hG9
  simp only [Act.put,sA,s0,s1] at hK9
  go_simp
  exact hK9 _ _ rfl (sy hG9 hC9) bR
 apply aa
 case h1 =>
  intro vs L9 w9 hG9 hC9 hB K9 hK9
  replace hC9:=sb hC9 hG9
  have d1:=fe hB 1
  simp only [d1] at hK9 ⊢
  have q0:w9.cell? ⟨(w.heap.size+1),1,none⟩=some (O U st):=(L2b.below hC9 L2b.lt).cell 1
  simp only [Act.put,sA,s0,s1] at hK9
  go_simp
  exact hK9 _ _ rfl (sy hG9 hC9) bR
 apply aa
 case h1 =>
  intro vs L9 w9 hG9 hC9 hB K9 hK9
  replace hC9:=sb hC9 hG9
  simp only [Act.put,sA,s0,s1] at hK9
  go_simp
  exact hK9 _ _ rfl (sy hG9 hC9) bR
 apply aa
 case h1 =>
  intro vs L9 w9 hG9 hC9 hB K9 hK9
  replace hC9:=sb hC9 hG9
  have d3:=fe hB 3
  simp only [d3] at hK9 ⊢
  have q0:w9.cell? ⟨(w.heap.size+1),3,none⟩=some (O U va):=(L2b.below hC9 L2b.lt).cell 3
  simp only [Act.put,sA,s0,s1] at hK9
  go_simp
  exact hK9 _ _ rfl (sy hG9 hC9) bR
 apply aa
 case h1 =>
  intro vs L9 w9 hG9 hC9 hB K9 hK9
  replace hC9:=sb hC9 hG9
  have q0:w9.cell? ⟨g2,0,none⟩=some (F TA x.t.length tc):=(P.below hC9 P.lt).cell 0
  have q1:w9.cell? ⟨g2,1,none⟩=some (F OA (aI st pe (0) x.o).length oc):=(P.below hC9 P.lt).cell 1
  have q2:w9.cell? ⟨g2,2,none⟩=some (O U x.got):=(P.below hC9 P.lt).cell 2
  have q3:w9.cell? ⟨g2,3,none⟩=some (O U x.sold):=(P.below hC9 P.lt).cell 3
  have q4:w9.cell? ⟨g2,4,none⟩=some (O U x.missed):=(P.below hC9 P.lt).cell 4
  simp only [Act.put,sA,s0,s1] at hK9
  go_simp
  exact hK9 _ _ rfl (sy hG9 hC9) bR
 apply aa
 case h1 =>
  intro vs L9 w9 hG9 hC9 hB K9 hK9
  replace hC9:=sb hC9 hG9
  simp only [Act.put,sA,s0,s1] at hK9
  go_simp
  exact hK9 _ _ rfl (sy hG9 hC9) bR
 apply aa
 case h1 =>
  intro vs L9 w9 hG9 hC9 hB K9 hK9
  replace hC9:=sb hC9 hG9
  have d6:=fe hB 6
  simp only [d6] at hK9 ⊢
  have q0:w9.cell? ⟨(w.heap.size+1),1,none⟩=some (O U st):=(L2b.below hC9 L2b.lt).cell 1
  simp only [Act.put,sA,s0,s1] at hK9
  go_simp
  exact hK9 _ _ rfl (sy hG9 hC9) bR
 apply aa
 case h1 =>
  intro vs L9 w9 hG9 hC9 hB K9 hK9
  replace hC9:=sb hC9 hG9
  simp only [Act.put,sA,s0,s1] at hK9
  go_simp
  exact hK9 _ _ rfl (sy hG9 hC9) bR
 apply aa
 case h1 =>
  intro vs L9 w9 hG9 hC9 hB K9 hK9
  replace hC9:=sb hC9 hG9
  have d8:=fe hB 8
  simp only [d8] at hK9 ⊢
  have q0:w9.cell? ⟨(w.heap.size+1),3,none⟩=some (O U va):=(L2b.below hC9 L2b.lt).cell 3
  simp only [Act.put,sA,s0,s1] at hK9
  go_simp
  exact hK9 _ _ rfl (sy hG9 hC9) bR
 apply aa
 case h1 =>
  intro vs L9 w9 hG9 hC9 hB K9 hK9
  replace hC9:=sb hC9 hG9
  have d5:=fe hB 5
  have d7:=fe hB 7
  have d9:=fe hB 9
  simp only [d5,d7,d9] at hK9 ⊢
  simp only [Act.put,sA,s0,s1] at hK9
  go_simp
  refine (show Calls _ _ _ _ (fun e w'=>e=.returned (O U m)∧Below w9.heap.size w9 w') from by rw [← HM.out]; exact ui st va (show fC w9 w.heap.size (⟨x.t,aI st pe 0 x.o,x.got,x.sold,x.missed⟩ : Oc) _ from ⟨TA,tc,OA,oc,rfl,ac hT3 hC9,ac hO3 hC9⟩)).mono ?_
  rintro en w8 ⟨rfl,hb8⟩
  exact hK9 _ _ rfl (Sw.stay hG9 (by kernel_rfl) (by decide) (hC9.trans (hb8.mono hC9.size))) (fun _=>hb8)
 apply aa
 case h1 =>
  intro vs L9 w9 hG9 hC9 hB K9 hK9
  replace hC9:=sb hC9 hG9
  simp only [Act.put,sA,s0,s1] at hK9
  go_simp
  exact hK9 _ _ rfl (sy hG9 hC9) bR
 apply aa
 case h1 =>
  intro vs L9 w9 hG9 hC9 hB K9 hK9
  replace hC9:=sb hC9 hG9
  have d10:=fe hB 10
  have d11:=fe hB 11
  simp only [d10,d11] at hK9 ⊢
  have i3:IntKind.i64.wrap (m+n)=m+n:=IntWalk.i64_in _ (by omega)
  simp only [Act.put,sA,s0,s1] at hK9
  go_simp
  exact hK9 _ _ rfl (sy hG9 hC9) bR
 refine ak [23] (fun v w9=>fC w9 w.heap.size (⟨x.t,aI st va (m+n) (aI st pe 0 x.o),x.got,x.sold,x.missed⟩ : Oc) v) ?sv13 (fun vs L9 w9 hG9 hC9 hB K9 hK9=>?hv13) ?rv13
 case sv13 =>
  intro i9 hi9 hb9 ha9 v w1 w2 hv hT9
  have hb:=hT9 (fun hm=>by
   simp only [List.mem_cons,List.not_mem_nil,or_false] at hm hb9
   subst hm
   ·exact hb9 (by simp))
  exact hv.below hb
 case hv13 =>
  replace hC9:=sb hC9 hG9
  have d0:=fe hB 0
  have d2:=fe hB 2
  have d4:=fe hB 4
  have d12:=fe hB 12
  simp only [d0,d2,d4,d12] at hK9 ⊢
  simp only [Act.put,sA,s0,s1] at hK9
  have hW0:w.heap.size≤W3.heap.size:=b5.size
  go_simp
  refine (uh st va (m+n) (show fC w9 w.heap.size (⟨x.t,aI st pe 0 x.o,x.got,x.sold,x.missed⟩ : Oc) _ from ⟨TA,tc,OA,oc,rfl,ac hT3 hC9,ac hO3 hC9⟩) S1 hst hva).mono ?_
  rintro en w8 ⟨v8,rfl,hv8,hb8⟩
  exact hK9 _ _ _ rfl (hv8.lower (Nat.le_trans hW0 hC9.size)) (Sw.stay hG9 (by kernel_rfl) (by decide) (hC9.trans (hb8.mono hC9.size))) (fun _=>hb8)
 apply aa
 case h1 =>
  intro vs L9 w9 hG9 hC9 hB K9 hK9
  replace hC9:=sb hC9 hG9
  simp only [Act.put,sA,s0,s1] at hK9
  go_simp
  exact hK9 _ _ rfl (sy hG9 hC9) bR
 refine aa (.bool b) (fun vs L9 w9 hG9 hC9 hB K9 hK9=>?hv15) ?rv15
 case hv15 =>
  replace hC9:=sb hC9 hG9
  have d14:=fe hB 14
  simp only [d14] at hK9 ⊢
  go_simp
  rw [HBD.out]
  exact hK9 _ _ rfl (sy hG9 hC9) bR
 apply aa
 case h1 =>
  intro vs L9 w9 hG9 hC9 hB K9 hK9
  replace hC9:=sb hC9 hG9
  have d15:=fe hB 15
  simp only [d15] at hK9 ⊢
  simp only [Act.put,sA,s0,s1] at hK9
  go_simp
  exact hK9 _ _ rfl (sy hG9 hC9) bR
 refine ak [] (fun v _=>b=true→v=.pointer (some ⟨w.heap.size+1,3,none⟩)) ?sv17 (fun vs L9 w9 hG9 hC9 hB K9 hK9=>?hv17) ?rv17
 case sv17 =>
  intro i9 hi9 hb9 ha9 v w1 w2 hv hT9
  exact hv
 case hv17 =>
  have HC9:=Lib.hid hC9
  have dg:=fe hB 16
  simp only [dg] at hK9 ⊢
  clear hC9
  cases b with
  | false =>
   go_simp
   exact hK9 _ undef _ rfl (fun hq=>by cases hq) (Sw.both (by decide) (fun h=>h) (fun h=>h) HC9.out) bR
  | true =>
   go_simp
   exact hK9 _ _ _ rfl (fun _=>rfl) (Sw.both (by decide) (fun h=>h) (fun h=>h) HC9.out) bR
 refine ak [] (fun v _=>b=true→v=O U va) ?sv18 (fun vs L9 w9 hG9 hC9 hB K9 hK9=>?hv18) ?rv18
 case sv18 =>
  intro i9 hi9 hb9 ha9 v w1 w2 hv hT9
  exact hv
 case hv18 =>
  have HC9:=Lib.hid hC9
  have dg:=fe hB 16
  simp only [dg] at hK9 ⊢
  have q0:w9.cell? ⟨w.heap.size+1,3,none⟩=some (O U va):=(hC9.lies hDL L2b (by omega)).cell 3
  clear hC9
  cases b with
  | false =>
   go_simp
   exact hK9 _ undef _ rfl (fun hq=>by cases hq) (Sw.both (by decide) (fun h=>h) (fun h=>h) HC9.out) bR
  | true =>
   have d17:=hB 17 _ (by kernel_rfl) (by kernel_rfl) rfl (by decide) rfl
   simp only [d17] at hK9 ⊢
   go_simp
   exact hK9 _ _ _ rfl (fun _=>rfl) (Sw.both (by decide) (fun h=>h) (fun h=>h) HC9.out) bR
 refine ak [] (fun v _=>b=true→v=.pointer (some ⟨w.heap.size+1,2,none⟩)) ?sv19 (fun vs L9 w9 hG9 hC9 hB K9 hK9=>?hv19) ?rv19
 case sv19 =>
  intro i9 hi9 hb9 ha9 v w1 w2 hv hT9
  exact hv
 case hv19 =>
  have HC9:=Lib.hid hC9
  have dg:=fe hB 16
  simp only [dg] at hK9 ⊢
  clear hC9
  cases b with
  | false =>
   go_simp
   exact hK9 _ undef _ rfl (fun hq=>by cases hq) (Sw.both (by decide) (fun h=>h) (fun h=>h) HC9.out) bR
  | true =>
   go_simp
   exact hK9 _ _ _ rfl (fun _=>rfl) (Sw.both (by decide) (fun h=>h) (fun h=>h) HC9.out) bR
 refine ak [] (fun v _=>b=true→v=O U pe) ?sv20 (fun vs L9 w9 hG9 hC9 hB K9 hK9=>?hv20) ?rv20
 case sv20 =>
  intro i9 hi9 hb9 ha9 v w1 w2 hv hT9
  exact hv
 case hv20 =>
  have HC9:=Lib.hid hC9
  have dg:=fe hB 16
  simp only [dg] at hK9 ⊢
  have q0:w9.cell? ⟨w.heap.size+1,2,none⟩=some (O U pe):=(hC9.lies hDL L2b (by omega)).cell 2
  clear hC9
  cases b with
  | false =>
   go_simp
   exact hK9 _ undef _ rfl (fun hq=>by cases hq) (Sw.both (by decide) (fun h=>h) (fun h=>h) HC9.out) bR
  | true =>
   have d19:=hB 19 _ (by kernel_rfl) (by kernel_rfl) rfl (by decide) rfl
   simp only [d19] at hK9 ⊢
   go_simp
   exact hK9 _ _ _ rfl (fun _=>rfl) (Sw.both (by decide) (fun h=>h) (fun h=>h) HC9.out) bR
 refine ak [] (fun v _=>b=true→v=.bool (va != pe)) ?sv21 (fun vs L9 w9 hG9 hC9 hB K9 hK9=>?hv21) ?rv21
 case sv21 =>
  intro i9 hi9 hb9 ha9 v w1 w2 hv hT9
  exact hv
 case hv21 =>
  have HC9:=Lib.hid hC9
  have dg:=fe hB 16
  simp only [dg] at hK9 ⊢
  clear hC9
  cases b with
  | false =>
   go_simp
   exact hK9 _ undef _ rfl (fun hq=>by cases hq) (Sw.both (by decide) (fun h=>h) (fun h=>h) HC9.out) bR
  | true =>
   have d18:=hB 18 _ (by kernel_rfl) (by kernel_rfl) rfl (by decide) rfl
   have d20:=hB 20 _ (by kernel_rfl) (by kernel_rfl) rfl (by decide) rfl
   simp only [d18,d20] at hK9 ⊢
   go_simp
   exact hK9 _ _ _ rfl (fun _=>rfl) (Sw.both (by decide) (fun h=>h) (fun h=>h) HC9.out) bR
 refine aa (.bool (b && (va != pe))) (fun vs L9 w9 hG9 hC9 hB K9 hK9=>?hv22) ?rv22
 case hv22 =>
  have d16:=fe hB 16
  simp only [d16] at hK9 ⊢
  have HC9:=Lib.hid hC9
  clear hC9
  cases b with
  | false =>
   go_simp
   exact hK9 _ _ rfl (Sw.both (by decide) (fun h=>h) (fun h=>h) HC9.out) bR
  | true =>
   have d21:=hB 21 _ (by kernel_rfl) (by kernel_rfl) rfl (by decide) rfl
   simp only [d21] at hK9 ⊢
   go_simp
   exact hK9 _ _ rfl (Sw.both (by decide) (fun h=>h) (fun h=>h) HC9.out) bR
 refine aa (undef) (fun vs L9 w9 hG9 hC9 hB K9 hK9=>?hv23) ?rv23
 case hv23 =>
  replace hC9:=hC9.here hG9
  obtain ⟨TA,tc,OA,oc,e15,h1,h2⟩:=fs hB 13
  simp only [e15] at hK9 ⊢
  have Lr:=L3b.below hC9 L3b.lt
  obtain ⟨z0,z1,z2,z3,z4⟩:=cells5 Lr
  obtain ⟨f0,f1,f2,f3,f4⟩:=frz5 Lr
  have h1:=Lib.hid h1
  have h2:=Lib.hid h2
  clear Lr
  go_simp
  exact hK9 _ _ rfl (Sw.turn (by rw [HD1.out]; exact ⟨w9,TA,tc,OA,oc,hC9,h1.out,h2.out,rfl⟩)) (fun hq=>(hq (by decide)).elim)
 apply aa
 case h1 =>
  intro vs L9 w9 hG9 hC9 hB K9 hK9
  replace hC9:=hC9.after hG9 (by kernel_rfl)
  have d22:=fe hB 22
  simp only [d22] at hK9 ⊢
  simp only [Act.put,sA,s0,s1] at hK9
  go_simp
  exact hK9 _ _ rfl (Sw.on hG9 (by kernel_rfl) hC9) bR
 refine ax fun vs L9 w9 hL9 hC9 hB=>?_
 replace hC9:=hC9.done hL9 (by decide)
 have dl:=ag.eq (hB 24 _ rfl rfl (by decide))
 simp only [dl]
 clear hB dl
 rw [HD1.out] at hC9
 obtain ⟨W8,TA,tc,OA,oc,hb8,h1,h2,rfl⟩:=hC9
 have Lr:=L3b.below hb8 L3b.lt
 have bz:=(b5.trans (hb8.mono b5.size)).trans (bI (v0:=F TA ((⟨x.t,aI st va (m+n) (aI st pe 0 x.o),x.got,x.sold,x.missed⟩ : Oc)).t.length tc) (v1:=F OA ((⟨x.t,aI st va (m+n) (aI st pe 0 x.o),x.got,x.sold,x.missed⟩ : Oc)).o.length oc) (v2:=O U ((⟨x.t,aI st va (m+n) (aI st pe 0 x.o),x.got,x.sold,x.missed⟩ : Oc)).got) (v3:=O U ((⟨x.t,aI st va (m+n) (aI st pe 0 x.o),x.got,x.sold,x.missed⟩ : Oc)).sold) (v4:=O U ((⟨x.t,aI st va (m+n) (aI st pe 0 x.o),x.got,x.sold,x.missed⟩ : Oc)).missed) Lr (show w.heap.size≤(w.heap.size+1+1) by omega))
 have HT:=Lib.hid (aV (v0:=F TA ((⟨x.t,aI st va (m+n) (aI st pe 0 x.o),x.got,x.sold,x.missed⟩ : Oc)).t.length tc) (v1:=F OA ((⟨x.t,aI st va (m+n) (aI st pe 0 x.o),x.got,x.sold,x.missed⟩ : Oc)).o.length oc) (v2:=O U ((⟨x.t,aI st va (m+n) (aI st pe 0 x.o),x.got,x.sold,x.missed⟩ : Oc)).got) (v3:=O U ((⟨x.t,aI st va (m+n) (aI st pe 0 x.o),x.got,x.sold,x.missed⟩ : Oc)).sold) (v4:=O U ((⟨x.t,aI st va (m+n) (aI st pe 0 x.o),x.got,x.sold,x.missed⟩ : Oc)).missed) Lr h1 cy)
 have HO:=Lib.hid (aV (v0:=F TA ((⟨x.t,aI st va (m+n) (aI st pe 0 x.o),x.got,x.sold,x.missed⟩ : Oc)).t.length tc) (v1:=F OA ((⟨x.t,aI st va (m+n) (aI st pe 0 x.o),x.got,x.sold,x.missed⟩ : Oc)).o.length oc) (v2:=O U ((⟨x.t,aI st va (m+n) (aI st pe 0 x.o),x.got,x.sold,x.missed⟩ : Oc)).got) (v3:=O U ((⟨x.t,aI st va (m+n) (aI st pe 0 x.o),x.got,x.sold,x.missed⟩ : Oc)).sold) (v4:=O U ((⟨x.t,aI st va (m+n) (aI st pe 0 x.o),x.got,x.sold,x.missed⟩ : Oc)).missed) Lr h2 cR)
 have PR:=fp (v0:=F TA ((⟨x.t,aI st va (m+n) (aI st pe 0 x.o),x.got,x.sold,x.missed⟩ : Oc)).t.length tc) (v1:=F OA ((⟨x.t,aI st va (m+n) (aI st pe 0 x.o),x.got,x.sold,x.missed⟩ : Oc)).o.length oc) (v2:=O U ((⟨x.t,aI st va (m+n) (aI st pe 0 x.o),x.got,x.sold,x.missed⟩ : Oc)).got) (v3:=O U ((⟨x.t,aI st va (m+n) (aI st pe 0 x.o),x.got,x.sold,x.missed⟩ : Oc)).sold) (v4:=O U ((⟨x.t,aI st va (m+n) (aI st pe 0 x.o),x.got,x.sold,x.missed⟩ : Oc)).missed) Lr
 generalize dh W8 (w.heap.size+1+1) (F TA ((⟨x.t,aI st va (m+n) (aI st pe 0 x.o),x.got,x.sold,x.missed⟩ : Oc)).t.length tc) (F OA ((⟨x.t,aI st va (m+n) (aI st pe 0 x.o),x.got,x.sold,x.missed⟩ : Oc)).o.length oc) (O U ((⟨x.t,aI st va (m+n) (aI st pe 0 x.o),x.got,x.sold,x.missed⟩ : Oc)).got) (O U ((⟨x.t,aI st va (m+n) (aI st pe 0 x.o),x.got,x.sold,x.missed⟩ : Oc)).sold) (O U ((⟨x.t,aI st va (m+n) (aI st pe 0 x.o),x.got,x.sold,x.missed⟩ : Oc)).missed)=W9 at bz HT HO PR ⊢
 obtain ⟨k0,k1,k2,k3,k4⟩:=cells5 PR
 clear h1 h2 Lr hb8 hL9 PR
 go_wp2
 refine bodyPost_ret (v:=.tuple #[.agg #[F TA ((⟨x.t,aI st va (m+n) (aI st pe 0 x.o),x.got,x.sold,x.missed⟩ : Oc)).t.length tc,F OA ((⟨x.t,aI st va (m+n) (aI st pe 0 x.o),x.got,x.sold,x.missed⟩ : Oc)).o.length oc,O U ((⟨x.t,aI st va (m+n) (aI st pe 0 x.o),x.got,x.sold,x.missed⟩ : Oc)).got,O U ((⟨x.t,aI st va (m+n) (aI st pe 0 x.o),x.got,x.sold,x.missed⟩ : Oc)).sold,O U ((⟨x.t,aI st va (m+n) (aI st pe 0 x.o),x.got,x.sold,x.missed⟩ : Oc)).missed],.bool (b && (va != pe))]) (by simp [results,Tryz.results175,go_sem, *]) rfl ?_
 rw [show (decide (0 < n) && !decide (va=pe))=(b && (va != pe)) from by rw [HBD.out]; congr 1]
 exact ⟨TA,tc,OA,oc,rfl,HT.out,HO.out,bz⟩
set_option maxRecDepth 100000 in
set_option maxHeartbeats 4000000 in
theorem pj (x:aL) (st pe va:Int) (w:World) (h:aM w w.heap.size x) (G:bo x) (hcap:x.t.length≤x.tc) (hst:1≤st∧st≤99) (hpe:1≤pe∧pe≤999) (hva:1≤va∧va≤9999) :
  Calls Tryz.prog 175 #[x.val,.agg #[O U 4,O U st,O U pe,O U va]] w (cq w ((⟨x.t,aI st pe (aJ st pe x.o - va) x.o,x.got,x.sold+va,x.missed⟩ : Oc),decide (va≤aJ st pe x.o))):=by
 have L1:=((ah.new w 40 #[F x.TA x.t.length x.tc,F x.OA x.o.length x.oc,O U x.got,O U x.sold,O U x.missed]).alloc (.cells #[O U 4,O U st,O U pe,O U va] 112)).alloc (.cells #[F none 0 0,F none 0 0,O U 0,O U 0,O U 0] 40)
 have L2:=(ah.new1 w (.cells #[F x.TA x.t.length x.tc,F x.OA x.o.length x.oc,O U x.got,O U x.sold,O U x.missed] 40) 112 #[O U 4,O U st,O U pe,O U va]).alloc (.cells #[F none 0 0,F none 0 0,O U 0,O U 0,O U 0] 40)
 have L3:=ah.new2 w (.cells #[F x.TA x.t.length x.tc,F x.OA x.o.length x.oc,O U x.got,O U x.sold,O U x.missed] 40) (.cells #[O U 4,O U st,O U pe,O U va] 112) 40 #[F none 0 0,F none 0 0,O U 0,O U 0,O U 0]
 have b1:=(Below.refl w.heap.size w).alloc (Nat.le_refl _) (.cells #[F x.TA x.t.length x.tc,F x.OA x.o.length x.oc,O U x.got,O U x.sold,O U x.missed] 40)
 have b2:=b1.alloc b1.size (.cells #[O U 4,O U st,O U pe,O U va] 112)
 have b3:=b2.alloc b2.size (.cells #[F none 0 0,F none 0 0,O U 0,O U 0,O U 0] 40)
 have Sx:=G.small
 have htl:=G.tl
 have hol:=G.ol
 have htc:=G.tcs
 obtain ⟨m1,m2⟩:=G.m
 obtain ⟨g1,g2⟩:=G.s
 obtain ⟨n1,n2⟩:=G.at_bd st pe
 obtain ⟨n,hn⟩ : ∃ n,aJ st pe x.o=n:=⟨_,rfl⟩
 rw [hn] at n1 n2 ⊢
 clear b1 b2 G
 go_enter Tryz.func175,Tryz.ntmps175
 go_wp2_with fail
 generalize (((w.alloc (.cells #[F x.TA x.t.length x.tc,F x.OA x.o.length x.oc,O U x.got,O U x.sold,O U x.missed] 40)).alloc (.cells #[O U 4,O U st,O U pe,O U va] 112)).alloc (.cells #[F none 0 0,F none 0 0,O U 0,O U 0,O U 0] 40))=W at L1 L2 L3 b3 ⊢
 have hR:=h.up b3 (Nat.le_refl _)
 refine (fB x st pe W hR).mono ?_
 rintro e W1 ⟨rfl,hb1⟩
 rw [hn]
 have hR1:=hR.then hb1
 have L1a:=L1.below hb1 L1.lt
 have L2a:=L2.below hb1 L2.lt
 have L3a:=L3.below hb1 L3.lt
 have b4:=b3.trans (hb1.mono b3.size)
 have hW0:w.heap.size≤W1.heap.size:=b4.size
 have hn:=Lib.hid hn
 clear L1 L2 L3 b3 hb1 hR h
 obtain ⟨c0,c1,c2,c3,c4⟩:=cells5 L1a
 obtain ⟨s0,s1,s2,s3⟩:=cells4 L2a
 obtain ⟨v1,v2⟩:=hva
 have i3:IntKind.i64.wrap (n - va)=n - va:=IntWalk.i64_in _ (by omega)
 have i4:IntKind.i64.wrap (x.sold+va)=x.sold+va:=IntWalk.i64_in _ (by omega)
 go_wp2_with fail
 refine (ud x st pe (n - va) W1 hR1 Sx hst hpe).mono ?_
 rintro e W2 ⟨v2,rfl,⟨TA,tc,OA,oc,hv2,hT,hO⟩,hb2⟩
 have hv2:v2=.agg #[F TA x.t.length tc,F OA (aI st pe (n - va) x.o).length oc,O U x.got,O U x.sold,O U x.missed]:=hv2
 subst hv2
 simp only at hT hO
 have hal:=(Below.refl W2.heap.size W2).alloc (Nat.le_refl _) (.cells #[F TA x.t.length tc,F OA (aI st pe (n - va) x.o).length oc,O U x.got,O U x.sold,O U x.missed] 40)
 have L1b:=(L1a.below hb2 L1a.lt).below hal (Nat.lt_of_lt_of_le L1a.lt hb2.size)
 have L2b:=(L2a.below hb2 L2a.lt).below hal (Nat.lt_of_lt_of_le L2a.lt hb2.size)
 have L3b:=(L3a.below hb2 L3a.lt).below hal (Nat.lt_of_lt_of_le L3a.lt hb2.size)
 have P:=ah.new W2 40 #[F TA x.t.length tc,F OA (aI st pe (n - va) x.o).length oc,O U x.got,O U x.sold,O U x.missed]
 have hT3:=af (ac hT hal) hW0
 have hO3:=af (ac hO hal) hW0
 have b5:=b4.trans ((aq hb2 hal).mono b4.size)
 have hR5:=(hR1.then hb2).then hal
 have hgg:w.heap.size+1+1 < W2.heap.size:=Nat.lt_of_lt_of_le L3a.lt hb2.size
 clear c0 c1 c2 c3 c4 s0 s1 s2 s3
 obtain ⟨W3,hW3⟩ : ∃ W3,W2.alloc (.cells #[F TA x.t.length tc,F OA (aI st pe (n - va) x.o).length oc,O U x.got,O U x.sold,O U x.missed] 40)=W3:=⟨_,rfl⟩
 rw [hW3] at L1b L2b L3b P hT3 hO3 b5 hR5
 generalize hg2:W2.heap.size=g2 at P hgg
 obtain ⟨c0,c1,c2,c3,c4⟩:=cells5 L1b
 obtain ⟨s0,s1,s2,s3⟩:=cells4 L2b
 obtain ⟨p0,p1,p2,p3,p4⟩:=cells5 P
 obtain ⟨pf0,pf1,pf2,pf3,pf4⟩:=frz5 P
 have P4:=P.set 3 (O U (x.sold+va))
 have L1c:=L1b.other (p:=⟨g2,3,none⟩) (by simp; omega) (O U (x.sold+va))
 have L2c:=L2b.other (p:=⟨g2,3,none⟩) (by simp; omega) (O U (x.sold+va))
 have L3c:=L3b.other (p:=⟨g2,3,none⟩) (by simp; omega) (O U (x.sold+va))
 have hT4:=aF hT3 P cy 3 (O U (x.sold+va))
 have hO4:=aF hO3 P cR 3 (O U (x.sold+va))
 have b6:=b5.setCell (p:=⟨g2,3,none⟩) (show w.heap.size≤g2 by omega) (O U (x.sold+va))
 simp only [List.set_cons_zero,List.set_cons_succ] at P4
 obtain ⟨W4,hW4⟩ : ∃ W4,W3.setCell ⟨g2,3,none⟩ (O U (x.sold+va))=W4:=⟨_,rfl⟩
 rw [hW4] at P4 L1c L2c L3c hT4 hO4 b6
 clear hR5 hb2 hal hT hO L1a L2a L3a b4 hR1
 go_wp2_with (first | (rw [hW3]; clear hW3; rw [hg2]) | (rw [hW4]; clear hW4))
 clear c0 c1 c2 c3 c4 s0 s1 s2 s3 p0 p1 p2 p3 p4 pf0 pf1 pf2 pf3 pf4
 obtain ⟨D1,hD1⟩ : ∃ D:World→Prop,D=(fun W9=>∃ W8 TA tc OA oc,Below W4.heap.size W4 W8∧W8.ownsRow w.heap.size 104 2 (F TA ((⟨x.t,aI st pe (n - va) x.o,x.got,x.sold+va,x.missed⟩ : Oc)).t.length tc) ((⟨x.t,aI st pe (n - va) x.o,x.got,x.sold+va,x.missed⟩ : Oc)).t.length (((⟨x.t,aI st pe (n - va) x.o,x.got,x.sold+va,x.missed⟩ : Oc)).t.flatMap ap.enc)∧W8.ownsRow w.heap.size 147 3 (F OA ((⟨x.t,aI st pe (n - va) x.o,x.got,x.sold+va,x.missed⟩ : Oc)).o.length oc) ((⟨x.t,aI st pe (n - va) x.o,x.got,x.sold+va,x.missed⟩ : Oc)).o.length (((⟨x.t,aI st pe (n - va) x.o,x.got,x.sold+va,x.missed⟩ : Oc)).o.flatMap ae.enc)∧W9=dh W8 (w.heap.size+1+1) (F TA ((⟨x.t,aI st pe (n - va) x.o,x.got,x.sold+va,x.missed⟩ : Oc)).t.length tc) (F OA ((⟨x.t,aI st pe (n - va) x.o,x.got,x.sold+va,x.missed⟩ : Oc)).o.length oc) (O U ((⟨x.t,aI st pe (n - va) x.o,x.got,x.sold+va,x.missed⟩ : Oc)).got) (O U ((⟨x.t,aI st pe (n - va) x.o,x.got,x.sold+va,x.missed⟩ : Oc)).sold) (O U ((⟨x.t,aI st pe (n - va) x.o,x.got,x.sold+va,x.missed⟩ : Oc)).missed)):=⟨_,rfl⟩
 have hDL:∀ W,D1 W→∃ W8 v0 v1 v2 v3 v4,Below W4.heap.size W4 W8∧W=dh W8 (w.heap.size+1+1) v0 v1 v2 v3 v4:=by
  rw [hD1]
  rintro _ ⟨W8,TA,tc,OA,oc,hq,_,_,e⟩
  exact ⟨W8,_,_,_,_,_,hq,e⟩
 have HD1:=Lib.hid hD1; clear hD1
 refine am (Sw 5 (fun W9=>Below W4.heap.size W4 W9) D1) (fun i w1 w2=>i ∉ [5]→Below w1.heap.size w1 w2) (by kernel_rfl) (by kernel_rfl) (by kernel_rfl) (Sw.start (Below.refl _ _).drew) ?_
 simp only [aw,Act.put,List.setIfInBounds_toArray,List.set_cons_zero,List.set_cons_succ,Nat.zero_add,Nat.reduceAdd]
 apply aa
 case h1 =>
  intro vs L9 w9 hG9 hC9 hB K9 hK9
  replace hC9:=sb hC9 hG9
  have q0:w9.cell? ⟨g2,0,none⟩=some (F TA x.t.length tc):=(P4.below hC9 P4.lt).cell 0
  have q1:w9.cell? ⟨g2,1,none⟩=some (F OA (aI st pe (n - va) x.o).length oc):=(P4.below hC9 P4.lt).cell 1
  have q2:w9.cell? ⟨g2,2,none⟩=some (O U x.got):=(P4.below hC9 P4.lt).cell 2
  have q3:w9.cell? ⟨g2,3,none⟩=some (O U (x.sold+va)):=(P4.below hC9 P4.lt).cell 3
  have q4:w9.cell? ⟨g2,4,none⟩=some (O U x.missed):=(P4.below hC9 P4.lt).cell 4
  simp only [Act.put,sA,s0,s1] at hK9
  go_simp
  exact hK9 _ _ rfl (sy hG9 hC9) bR
 apply aa
 case h1 =>
  intro vs L9 w9 hG9 hC9 hB K9 hK9
  simp only [Act.put,sA,s0,s1] at hK9
  have HC9:=Lib.hid hC9
  clear hC9
  go_simp
  exact hK9 _ _ rfl (Sw.both (by decide) (fun h=>h) (fun h=>h) HC9.out) bR
 apply aa
 case h1 =>
  intro vs L9 w9 hG9 hC9 hB K9 hK9
  simp only [Act.put,sA,s0,s1] at hK9
  have HC9:=Lib.hid hC9
  clear hC9
  go_simp
  exact hK9 _ _ rfl (Sw.both (by decide) (fun h=>h) (fun h=>h) HC9.out) bR
 apply aa
 case h1 =>
  intro vs L9 w9 hG9 hC9 hB K9 hK9
  have d2:=fe hB 2
  simp only [d2] at hK9 ⊢
  have q0:w9.cell? ⟨(w.heap.size+1),3,none⟩=some (O U va):=(hC9.lies hDL L2c (by omega)).cell 3
  simp only [Act.put,sA,s0,s1] at hK9
  have HC9:=Lib.hid hC9
  clear hC9
  go_simp
  exact hK9 _ _ rfl (Sw.both (by decide) (fun h=>h) (fun h=>h) HC9.out) bR
 apply aa
 case h1 =>
  intro vs L9 w9 hG9 hC9 hB K9 hK9
  have d1:=fe hB 1
  have d3:=fe hB 3
  simp only [d1,d3] at hK9 ⊢
  simp only [Act.put,sA,s0,s1] at hK9
  have HC9:=Lib.hid hC9
  clear hC9
  go_simp
  exact hK9 _ _ rfl (Sw.both (by decide) (fun h=>h) (fun h=>h) HC9.out) bR
 refine aa (undef) (fun vs L9 w9 hG9 hC9 hB K9 hK9=>?hl5) ?rl5
 case hl5 =>
  replace hC9:=hC9.here hG9
  have d0:=fe hB 0
  simp only [d0] at hK9 ⊢
  have Lr:=L3c.below hC9 L3c.lt
  obtain ⟨z0,z1,z2,z3,z4⟩:=cells5 Lr
  obtain ⟨f0,f1,f2,f3,f4⟩:=frz5 Lr
  clear Lr
  go_simp
  exact hK9 _ _ rfl (Sw.turn (by rw [HD1.out]; exact ⟨w9,TA,tc,OA,oc,hC9,ac hT4 hC9,ac hO4 hC9,rfl⟩)) (fun hq=>(hq (by decide)).elim)
 apply aa
 case h1 =>
  intro vs L9 w9 hG9 hC9 hB K9 hK9
  replace hC9:=hC9.after hG9 (by kernel_rfl)
  have d4:=fe hB 4
  simp only [d4] at hK9 ⊢
  simp only [Act.put,sA,s0,s1] at hK9
  go_simp
  exact hK9 _ _ rfl (Sw.on hG9 (by kernel_rfl) hC9) bR
 refine ax fun vs L9 w9 hL9 hC9 hB=>?_
 replace hC9:=hC9.done hL9 (by decide)
 have dl:=ag.eq (hB 6 _ rfl rfl (by decide))
 simp only [dl]
 clear hB dl
 rw [HD1.out] at hC9
 obtain ⟨W8,TA,tc,OA,oc,hb8,h1,h2,rfl⟩:=hC9
 have Lr:=L3c.below hb8 L3c.lt
 have bz:=(b6.trans (hb8.mono b6.size)).trans (bI (v0:=F TA ((⟨x.t,aI st pe (n - va) x.o,x.got,x.sold+va,x.missed⟩ : Oc)).t.length tc) (v1:=F OA ((⟨x.t,aI st pe (n - va) x.o,x.got,x.sold+va,x.missed⟩ : Oc)).o.length oc) (v2:=O U ((⟨x.t,aI st pe (n - va) x.o,x.got,x.sold+va,x.missed⟩ : Oc)).got) (v3:=O U ((⟨x.t,aI st pe (n - va) x.o,x.got,x.sold+va,x.missed⟩ : Oc)).sold) (v4:=O U ((⟨x.t,aI st pe (n - va) x.o,x.got,x.sold+va,x.missed⟩ : Oc)).missed) Lr (show w.heap.size≤(w.heap.size+1+1) by omega))
 have HT:=Lib.hid (aV (v0:=F TA ((⟨x.t,aI st pe (n - va) x.o,x.got,x.sold+va,x.missed⟩ : Oc)).t.length tc) (v1:=F OA ((⟨x.t,aI st pe (n - va) x.o,x.got,x.sold+va,x.missed⟩ : Oc)).o.length oc) (v2:=O U ((⟨x.t,aI st pe (n - va) x.o,x.got,x.sold+va,x.missed⟩ : Oc)).got) (v3:=O U ((⟨x.t,aI st pe (n - va) x.o,x.got,x.sold+va,x.missed⟩ : Oc)).sold) (v4:=O U ((⟨x.t,aI st pe (n - va) x.o,x.got,x.sold+va,x.missed⟩ : Oc)).missed) Lr h1 cy)
 have HO:=Lib.hid (aV (v0:=F TA ((⟨x.t,aI st pe (n - va) x.o,x.got,x.sold+va,x.missed⟩ : Oc)).t.length tc) (v1:=F OA ((⟨x.t,aI st pe (n - va) x.o,x.got,x.sold+va,x.missed⟩ : Oc)).o.length oc) (v2:=O U ((⟨x.t,aI st pe (n - va) x.o,x.got,x.sold+va,x.missed⟩ : Oc)).got) (v3:=O U ((⟨x.t,aI st pe (n - va) x.o,x.got,x.sold+va,x.missed⟩ : Oc)).sold) (v4:=O U ((⟨x.t,aI st pe (n - va) x.o,x.got,x.sold+va,x.missed⟩ : Oc)).missed) Lr h2 cR)
 have PR:=fp (v0:=F TA ((⟨x.t,aI st pe (n - va) x.o,x.got,x.sold+va,x.missed⟩ : Oc)).t.length tc) (v1:=F OA ((⟨x.t,aI st pe (n - va) x.o,x.got,x.sold+va,x.missed⟩ : Oc)).o.length oc) (v2:=O U ((⟨x.t,aI st pe (n - va) x.o,x.got,x.sold+va,x.missed⟩ : Oc)).got) (v3:=O U ((⟨x.t,aI st pe (n - va) x.o,x.got,x.sold+va,x.missed⟩ : Oc)).sold) (v4:=O U ((⟨x.t,aI st pe (n - va) x.o,x.got,x.sold+va,x.missed⟩ : Oc)).missed) Lr
 generalize dh W8 (w.heap.size+1+1) (F TA ((⟨x.t,aI st pe (n - va) x.o,x.got,x.sold+va,x.missed⟩ : Oc)).t.length tc) (F OA ((⟨x.t,aI st pe (n - va) x.o,x.got,x.sold+va,x.missed⟩ : Oc)).o.length oc) (O U ((⟨x.t,aI st pe (n - va) x.o,x.got,x.sold+va,x.missed⟩ : Oc)).got) (O U ((⟨x.t,aI st pe (n - va) x.o,x.got,x.sold+va,x.missed⟩ : Oc)).sold) (O U ((⟨x.t,aI st pe (n - va) x.o,x.got,x.sold+va,x.missed⟩ : Oc)).missed)=W9 at bz HT HO PR ⊢
 obtain ⟨k0,k1,k2,k3,k4⟩:=cells5 PR
 clear h1 h2 Lr hb8 hL9 PR
 go_wp2
 refine bodyPost_ret (v:=.tuple #[.agg #[F TA ((⟨x.t,aI st pe (n - va) x.o,x.got,x.sold+va,x.missed⟩ : Oc)).t.length tc,F OA ((⟨x.t,aI st pe (n - va) x.o,x.got,x.sold+va,x.missed⟩ : Oc)).o.length oc,O U ((⟨x.t,aI st pe (n - va) x.o,x.got,x.sold+va,x.missed⟩ : Oc)).got,O U ((⟨x.t,aI st pe (n - va) x.o,x.got,x.sold+va,x.missed⟩ : Oc)).sold,O U ((⟨x.t,aI st pe (n - va) x.o,x.got,x.sold+va,x.missed⟩ : Oc)).missed],.bool (decide (va≤n))]) (by simp [results,Tryz.results175,go_sem, *]) rfl ?_
 exact ⟨TA,tc,OA,oc,rfl,HT.out,HO.out,bz⟩
set_option maxRecDepth 100000 in
set_option maxHeartbeats 4000000 in
theorem pk (x:aL) (st pe va:Int) (hst:1≤st∧st≤99) (hva:1≤va∧va≤9999) (w:World) (h:aM w w.heap.size x) (G:bo x) (hcap:x.t.length≤x.tc) :
  Calls Tryz.prog 127 #[x.val,.agg #[O U 1,O U st,O U pe,O U va]] w (cq w ((⟨ai x.t st va,x.o,x.got+va,x.sold,x.missed⟩ : Oc),((⟨ai x.t st va,x.o,x.got+va,x.sold,x.missed⟩ : Oc)).good)):=by
 have L1:=((ah.new w 40 #[F x.TA x.t.length x.tc,F x.OA x.o.length x.oc,O U x.got,O U x.sold,O U x.missed]).alloc (.cells #[O U 1,O U st,O U pe,O U va] 112)).alloc (.cells #[F none 0 0,F none 0 0,O U 0,O U 0,O U 0] 40)
 have L2:=(ah.new1 w (.cells #[F x.TA x.t.length x.tc,F x.OA x.o.length x.oc,O U x.got,O U x.sold,O U x.missed] 40) 112 #[O U 1,O U st,O U pe,O U va]).alloc (.cells #[F none 0 0,F none 0 0,O U 0,O U 0,O U 0] 40)
 have L3:=ah.new2 w (.cells #[F x.TA x.t.length x.tc,F x.OA x.o.length x.oc,O U x.got,O U x.sold,O U x.missed] 40) (.cells #[O U 1,O U st,O U pe,O U va] 112) 40 #[F none 0 0,F none 0 0,O U 0,O U 0,O U 0]
 have b1:=(Below.refl w.heap.size w).alloc (Nat.le_refl _) (.cells #[F x.TA x.t.length x.tc,F x.OA x.o.length x.oc,O U x.got,O U x.sold,O U x.missed] 40)
 have b2:=b1.alloc b1.size (.cells #[O U 1,O U st,O U pe,O U va] 112)
 have b3:=b2.alloc b2.size (.cells #[F none 0 0,F none 0 0,O U 0,O U 0,O U 0] 40)
 have Sx:=G.small
 have htl:=G.tl
 have hol:=G.ol
 have htc:=G.tcs
 obtain ⟨m1,m2⟩:=G.m
 obtain ⟨g1,g2⟩:=G.s
 obtain ⟨o1,o2⟩:=G.g
 clear b1 b2 G
 obtain ⟨v1,v2⟩:=hva
 obtain ⟨gd,hgd⟩ : ∃ gd,((⟨ai x.t st va,x.o,x.got+va,x.sold,x.missed⟩ : Oc)).good=gd:=⟨_,rfl⟩
 rw [hgd]
 have HG:=Lib.hid hgd; clear hgd
 have i4:IntKind.i64.wrap (x.got+va)=x.got+va:=IntWalk.i64_in _ (by omega)
 go_enter Tryz.func127,Tryz.ntmps127
 go_wp2_with fail
 generalize (((w.alloc (.cells #[F x.TA x.t.length x.tc,F x.OA x.o.length x.oc,O U x.got,O U x.sold,O U x.missed] 40)).alloc (.cells #[O U 1,O U st,O U pe,O U va] 112)).alloc (.cells #[F none 0 0,F none 0 0,O U 0,O U 0,O U 0] 40))=W at L1 L2 L3 b3 ⊢
 have hR:=h.up b3 (Nat.le_refl _)
 have hR1:=hR
 have L1a:=L1
 have L2a:=L2
 have L3a:=L3
 have b4:=b3
 have hW0:w.heap.size≤W.heap.size:=b4.size
 clear L1 L2 L3 b3 hR h
 refine (uc x st va W hR1 Sx (by omega) hcap).mono ?_
 rintro e W2 ⟨v2,rfl,⟨TA,tc,OA,oc,hv2,hT,hO⟩,hb2⟩
 have hv2:v2=.agg #[F TA (ai x.t st va).length tc,F OA x.o.length oc,O U x.got,O U x.sold,O U x.missed]:=hv2
 subst hv2
 simp only at hT hO
 have hal:=(Below.refl W2.heap.size W2).alloc (Nat.le_refl _) (.cells #[F TA (ai x.t st va).length tc,F OA x.o.length oc,O U x.got,O U x.sold,O U x.missed] 40)
 have L1b:=(L1a.below hb2 L1a.lt).below hal (Nat.lt_of_lt_of_le L1a.lt hb2.size)
 have L2b:=(L2a.below hb2 L2a.lt).below hal (Nat.lt_of_lt_of_le L2a.lt hb2.size)
 have L3b:=(L3a.below hb2 L3a.lt).below hal (Nat.lt_of_lt_of_le L3a.lt hb2.size)
 have P:=ah.new W2 40 #[F TA (ai x.t st va).length tc,F OA x.o.length oc,O U x.got,O U x.sold,O U x.missed]
 have hT3:=af (ac hT hal) hW0
 have hO3:=af (ac hO hal) hW0
 have b5:=b4.trans ((aq hb2 hal).mono b4.size)
 have hgg:w.heap.size+1+1 < W2.heap.size:=Nat.lt_of_lt_of_le L3a.lt hb2.size
 obtain ⟨W3,hW3⟩ : ∃ W3,W2.alloc (.cells #[F TA (ai x.t st va).length tc,F OA x.o.length oc,O U x.got,O U x.sold,O U x.missed] 40)=W3:=⟨_,rfl⟩
 rw [hW3] at L1b L2b L3b P hT3 hO3 b5
 generalize hg2:W2.heap.size=g2 at P hgg
 obtain ⟨c0,c1,c2,c3,c4⟩:=cells5 L1b
 obtain ⟨s0,s1,s2,s3⟩:=cells4 L2b
 obtain ⟨p0,p1,p2,p3,p4⟩:=cells5 P
 obtain ⟨pf0,pf1,pf2,pf3,pf4⟩:=frz5 P
 have P4:=P.set 2 (O U (x.got+va))
 have L1c:=L1b.other (p:=⟨g2,2,none⟩) (by simp; omega) (O U (x.got+va))
 have L2c:=L2b.other (p:=⟨g2,2,none⟩) (by simp; omega) (O U (x.got+va))
 have L3c:=L3b.other (p:=⟨g2,2,none⟩) (by simp; omega) (O U (x.got+va))
 have hT4:=aF hT3 P cy 2 (O U (x.got+va))
 have hO4:=aF hO3 P cR 2 (O U (x.got+va))
 have b6:=b5.setCell (p:=⟨g2,2,none⟩) (show w.heap.size≤g2 by omega) (O U (x.got+va))
 simp only [List.set_cons_zero,List.set_cons_succ] at P4
 obtain ⟨W4,hW4⟩ : ∃ W4,W3.setCell ⟨g2,2,none⟩ (O U (x.got+va))=W4:=⟨_,rfl⟩
 rw [hW4] at P4 L1c L2c L3c hT4 hO4 b6
 clear hb2 hal hT hO L1a L2a L3a b4 hR1
 go_wp2_with (first | (rw [hW3]; clear hW3; rw [hg2]) | (rw [hW4]; clear hW4))
 clear c0 c1 c2 c3 c4 s0 s1 s2 s3 p0 p1 p2 p3 p4 pf0 pf1 pf2 pf3 pf4
 obtain ⟨D1,hD1⟩ : ∃ D:World→Prop,D=(fun W9=>∃ W8 TA tc OA oc,Below W4.heap.size W4 W8∧W8.ownsRow w.heap.size 104 2 (F TA ((⟨ai x.t st va,x.o,x.got+va,x.sold,x.missed⟩ : Oc)).t.length tc) ((⟨ai x.t st va,x.o,x.got+va,x.sold,x.missed⟩ : Oc)).t.length (((⟨ai x.t st va,x.o,x.got+va,x.sold,x.missed⟩ : Oc)).t.flatMap ap.enc)∧W8.ownsRow w.heap.size 147 3 (F OA ((⟨ai x.t st va,x.o,x.got+va,x.sold,x.missed⟩ : Oc)).o.length oc) ((⟨ai x.t st va,x.o,x.got+va,x.sold,x.missed⟩ : Oc)).o.length (((⟨ai x.t st va,x.o,x.got+va,x.sold,x.missed⟩ : Oc)).o.flatMap ae.enc)∧W9=dh W8 (w.heap.size+1+1) (F TA ((⟨ai x.t st va,x.o,x.got+va,x.sold,x.missed⟩ : Oc)).t.length tc) (F OA ((⟨ai x.t st va,x.o,x.got+va,x.sold,x.missed⟩ : Oc)).o.length oc) (O U ((⟨ai x.t st va,x.o,x.got+va,x.sold,x.missed⟩ : Oc)).got) (O U ((⟨ai x.t st va,x.o,x.got+va,x.sold,x.missed⟩ : Oc)).sold) (O U ((⟨ai x.t st va,x.o,x.got+va,x.sold,x.missed⟩ : Oc)).missed)):=⟨_,rfl⟩
 have hDL:∀ W,D1 W→∃ W8 v0 v1 v2 v3 v4,Below W4.heap.size W4 W8∧W=dh W8 (w.heap.size+1+1) v0 v1 v2 v3 v4:=by
  rw [hD1]
  rintro _ ⟨W8,TA,tc,OA,oc,hq,_,_,e⟩
  exact ⟨W8,_,_,_,_,_,hq,e⟩
 have HD1:=Lib.hid hD1; clear hD1
 refine am (Sw 3 (fun W9=>Below W4.heap.size W4 W9) D1) (fun i w1 w2=>i ∉ [3]→Below w1.heap.size w1 w2) (by kernel_rfl) (by kernel_rfl) (by kernel_rfl) (Sw.start (Below.refl _ _).drew) ?_
 simp only [aw,Act.put,List.setIfInBounds_toArray,List.set_cons_zero,List.set_cons_succ,Nat.zero_add,Nat.reduceAdd]
 apply aa
 case h1 =>
  intro vs L9 w9 hG9 hC9 hB K9 hK9
  replace hC9:=sb hC9 hG9
  have q0:w9.cell? ⟨g2,0,none⟩=some (F TA (ai x.t st va).length tc):=(P4.below hC9 P4.lt).cell 0
  have q1:w9.cell? ⟨g2,1,none⟩=some (F OA x.o.length oc):=(P4.below hC9 P4.lt).cell 1
  have q2:w9.cell? ⟨g2,2,none⟩=some (O U (x.got+va)):=(P4.below hC9 P4.lt).cell 2
  have q3:w9.cell? ⟨g2,3,none⟩=some (O U x.sold):=(P4.below hC9 P4.lt).cell 3
  have q4:w9.cell? ⟨g2,4,none⟩=some (O U x.missed):=(P4.below hC9 P4.lt).cell 4
  simp only [Act.put,sA,s0,s1] at hK9
  go_simp
  exact hK9 _ _ rfl (sy hG9 hC9) bR
 apply aa
 case h1 =>
  intro vs L9 w9 hG9 hC9 hB K9 hK9
  replace hC9:=sb hC9 hG9
  have q0:w9.cell? ⟨g2,0,none⟩=some (F TA (ai x.t st va).length tc):=(P4.below hC9 P4.lt).cell 0
  have q1:w9.cell? ⟨g2,1,none⟩=some (F OA x.o.length oc):=(P4.below hC9 P4.lt).cell 1
  have q2:w9.cell? ⟨g2,2,none⟩=some (O U (x.got+va)):=(P4.below hC9 P4.lt).cell 2
  have q3:w9.cell? ⟨g2,3,none⟩=some (O U x.sold):=(P4.below hC9 P4.lt).cell 3
  have q4:w9.cell? ⟨g2,4,none⟩=some (O U x.missed):=(P4.below hC9 P4.lt).cell 4
  simp only [Act.put,sA,s0,s1] at hK9
  go_simp
  exact hK9 _ _ rfl (sy hG9 hC9) bR
 apply aa
 case h1 =>
  intro vs L9 w9 hG9 hC9 hB K9 hK9
  replace hC9:=sb hC9 hG9
  have d1:=fe hB 1
  simp only [d1] at hK9 ⊢
  simp only [Act.put,sA,s0,s1] at hK9
  go_simp
  refine (show Calls _ _ _ _ (fun e w'=>e=.returned (.bool gd)∧Below w9.heap.size w9 w') from by rw [← HG.out]; exact sQ (show fC w9 w.heap.size (⟨ai x.t st va,x.o,x.got+va,x.sold,x.missed⟩ : Oc) _ from ⟨TA,tc,OA,oc,rfl,ac hT4 hC9,ac hO4 hC9⟩)).mono ?_
  rintro en w8 ⟨rfl,hb8⟩
  exact hK9 _ _ rfl (Sw.stay hG9 (by kernel_rfl) (by decide) (hC9.trans (hb8.mono hC9.size))) (fun _=>hb8)
 refine aa (undef) (fun vs L9 w9 hG9 hC9 hB K9 hK9=>?hg3) ?rg3
 case hg3 =>
  replace hC9:=hC9.here hG9
  have d0:=fe hB 0
  simp only [d0] at hK9 ⊢
  have Lr:=L3c.below hC9 L3c.lt
  obtain ⟨z0,z1,z2,z3,z4⟩:=cells5 Lr
  obtain ⟨f0,f1,f2,f3,f4⟩:=frz5 Lr
  clear Lr
  go_simp
  exact hK9 _ _ rfl (Sw.turn (by rw [HD1.out]; exact ⟨w9,TA,tc,OA,oc,hC9,ac hT4 hC9,ac hO4 hC9,rfl⟩)) (fun hq=>(hq (by decide)).elim)
 apply aa
 case h1 =>
  intro vs L9 w9 hG9 hC9 hB K9 hK9
  replace hC9:=hC9.after hG9 (by kernel_rfl)
  have d2:=fe hB 2
  simp only [d2] at hK9 ⊢
  simp only [Act.put,sA,s0,s1] at hK9
  go_simp
  exact hK9 _ _ rfl (Sw.on hG9 (by kernel_rfl) hC9) bR
 refine ax fun vs L9 w9 hL9 hC9 hB=>?_
 replace hC9:=hC9.done hL9 (by decide)
 have dl:=ag.eq (hB 4 _ rfl rfl (by decide))
 simp only [dl]
 clear hB dl
 rw [HD1.out] at hC9
 obtain ⟨W8,TA,tc,OA,oc,hb8,h1,h2,rfl⟩:=hC9
 have Lr:=L3c.below hb8 L3c.lt
 have bz:=(b6.trans (hb8.mono b6.size)).trans (bI (v0:=F TA ((⟨ai x.t st va,x.o,x.got+va,x.sold,x.missed⟩ : Oc)).t.length tc) (v1:=F OA ((⟨ai x.t st va,x.o,x.got+va,x.sold,x.missed⟩ : Oc)).o.length oc) (v2:=O U ((⟨ai x.t st va,x.o,x.got+va,x.sold,x.missed⟩ : Oc)).got) (v3:=O U ((⟨ai x.t st va,x.o,x.got+va,x.sold,x.missed⟩ : Oc)).sold) (v4:=O U ((⟨ai x.t st va,x.o,x.got+va,x.sold,x.missed⟩ : Oc)).missed) Lr (show w.heap.size≤(w.heap.size+1+1) by omega))
 have HT:=Lib.hid (aV (v0:=F TA ((⟨ai x.t st va,x.o,x.got+va,x.sold,x.missed⟩ : Oc)).t.length tc) (v1:=F OA ((⟨ai x.t st va,x.o,x.got+va,x.sold,x.missed⟩ : Oc)).o.length oc) (v2:=O U ((⟨ai x.t st va,x.o,x.got+va,x.sold,x.missed⟩ : Oc)).got) (v3:=O U ((⟨ai x.t st va,x.o,x.got+va,x.sold,x.missed⟩ : Oc)).sold) (v4:=O U ((⟨ai x.t st va,x.o,x.got+va,x.sold,x.missed⟩ : Oc)).missed) Lr h1 cy)
 have HO:=Lib.hid (aV (v0:=F TA ((⟨ai x.t st va,x.o,x.got+va,x.sold,x.missed⟩ : Oc)).t.length tc) (v1:=F OA ((⟨ai x.t st va,x.o,x.got+va,x.sold,x.missed⟩ : Oc)).o.length oc) (v2:=O U ((⟨ai x.t st va,x.o,x.got+va,x.sold,x.missed⟩ : Oc)).got) (v3:=O U ((⟨ai x.t st va,x.o,x.got+va,x.sold,x.missed⟩ : Oc)).sold) (v4:=O U ((⟨ai x.t st va,x.o,x.got+va,x.sold,x.missed⟩ : Oc)).missed) Lr h2 cR)
 have PR:=fp (v0:=F TA ((⟨ai x.t st va,x.o,x.got+va,x.sold,x.missed⟩ : Oc)).t.length tc) (v1:=F OA ((⟨ai x.t st va,x.o,x.got+va,x.sold,x.missed⟩ : Oc)).o.length oc) (v2:=O U ((⟨ai x.t st va,x.o,x.got+va,x.sold,x.missed⟩ : Oc)).got) (v3:=O U ((⟨ai x.t st va,x.o,x.got+va,x.sold,x.missed⟩ : Oc)).sold) (v4:=O U ((⟨ai x.t st va,x.o,x.got+va,x.sold,x.missed⟩ : Oc)).missed) Lr
 generalize dh W8 (w.heap.size+1+1) (F TA ((⟨ai x.t st va,x.o,x.got+va,x.sold,x.missed⟩ : Oc)).t.length tc) (F OA ((⟨ai x.t st va,x.o,x.got+va,x.sold,x.missed⟩ : Oc)).o.length oc) (O U ((⟨ai x.t st va,x.o,x.got+va,x.sold,x.missed⟩ : Oc)).got) (O U ((⟨ai x.t st va,x.o,x.got+va,x.sold,x.missed⟩ : Oc)).sold) (O U ((⟨ai x.t st va,x.o,x.got+va,x.sold,x.missed⟩ : Oc)).missed)=W9 at bz HT HO PR ⊢
 obtain ⟨k0,k1,k2,k3,k4⟩:=cells5 PR
 clear h1 h2 Lr hb8 hL9 PR
 go_wp2
 refine bodyPost_ret (v:=.tuple #[.agg #[F TA ((⟨ai x.t st va,x.o,x.got+va,x.sold,x.missed⟩ : Oc)).t.length tc,F OA ((⟨ai x.t st va,x.o,x.got+va,x.sold,x.missed⟩ : Oc)).o.length oc,O U ((⟨ai x.t st va,x.o,x.got+va,x.sold,x.missed⟩ : Oc)).got,O U ((⟨ai x.t st va,x.o,x.got+va,x.sold,x.missed⟩ : Oc)).sold,O U ((⟨ai x.t st va,x.o,x.got+va,x.sold,x.missed⟩ : Oc)).missed],.bool gd]) (by simp [results,Tryz.results127,go_sem, *]) rfl ?_
 exact ⟨TA,tc,OA,oc,rfl,HT.out,HO.out,bz⟩
set_option maxRecDepth 100000 in
set_option maxHeartbeats 4000000 in
theorem sR (x:aL) (kd st pe va:Int) (hk:(kd == 1)=false) (ht:au x.t st < 0) (w:World) (h:aM w w.heap.size x) (G:bo x) (hcap:x.t.length≤x.tc) :
  Calls Tryz.prog 127 #[x.val,.agg #[O U kd,O U st,O U pe,O U va]] w (cq w (x.c,false)):=by
 have L1:=((ah.new w 40 #[F x.TA x.t.length x.tc,F x.OA x.o.length x.oc,O U x.got,O U x.sold,O U x.missed]).alloc (.cells #[O U kd,O U st,O U pe,O U va] 112)).alloc (.cells #[F none 0 0,F none 0 0,O U 0,O U 0,O U 0] 40)
 have L2:=(ah.new1 w (.cells #[F x.TA x.t.length x.tc,F x.OA x.o.length x.oc,O U x.got,O U x.sold,O U x.missed] 40) 112 #[O U kd,O U st,O U pe,O U va]).alloc (.cells #[F none 0 0,F none 0 0,O U 0,O U 0,O U 0] 40)
 have L3:=ah.new2 w (.cells #[F x.TA x.t.length x.tc,F x.OA x.o.length x.oc,O U x.got,O U x.sold,O U x.missed] 40) (.cells #[O U kd,O U st,O U pe,O U va] 112) 40 #[F none 0 0,F none 0 0,O U 0,O U 0,O U 0]
 have b1:=(Below.refl w.heap.size w).alloc (Nat.le_refl _) (.cells #[F x.TA x.t.length x.tc,F x.OA x.o.length x.oc,O U x.got,O U x.sold,O U x.missed] 40)
 have b2:=b1.alloc b1.size (.cells #[O U kd,O U st,O U pe,O U va] 112)
 have b3:=b2.alloc b2.size (.cells #[F none 0 0,F none 0 0,O U 0,O U 0,O U 0] 40)
 have Sx:=G.small
 have htl:=G.tl
 have hol:=G.ol
 have htc:=G.tcs
 obtain ⟨m1,m2⟩:=G.m
 obtain ⟨g1,g2⟩:=G.s
 obtain ⟨o1,o2⟩:=G.g
 clear b1 b2 G
 have htd:decide (au x.t st < 0)=true:=decide_eq_true ht
 have HT0:=Lib.hid ht; clear ht
 go_enter Tryz.func127,Tryz.ntmps127
 go_wp2_with fail
 generalize (((w.alloc (.cells #[F x.TA x.t.length x.tc,F x.OA x.o.length x.oc,O U x.got,O U x.sold,O U x.missed] 40)).alloc (.cells #[O U kd,O U st,O U pe,O U va] 112)).alloc (.cells #[F none 0 0,F none 0 0,O U 0,O U 0,O U 0] 40))=W at L1 L2 L3 b3 ⊢
 have hR:=h.up b3 (Nat.le_refl _)
 refine (bx x st W hR).mono ?_
 rintro e W1 ⟨rfl,hb1⟩
 have hR1:=hR.then hb1
 have L1a:=L1.below hb1 L1.lt
 have L2a:=L2.below hb1 L2.lt
 have L3a:=L3.below hb1 L3.lt
 have b4:=b3.trans (hb1.mono b3.size)
 have hW0:w.heap.size≤W1.heap.size:=b4.size
 clear L1 L2 L3 b3 hb1 hR h
 obtain ⟨c0,c1,c2,c3,c4⟩:=cells5 L1a
 obtain ⟨s0,s1,s2,s3⟩:=cells4 L2a
 go_wp2_with fail
 refine (iG x W1 hR1 (by omega) (by omega)).mono ?_
 rintro e W2 ⟨TA,tc,OA,oc,rfl,hT,hO,hb2⟩
 simp only [aL.c] at hT hO
 have L3b:=L3a.below hb2 L3a.lt
 have b5:=b4.trans (hb2.mono b4.size)
 have hT4:=af hT hW0
 have hO4:=af hO hW0
 clear c0 c1 c2 c3 c4 s0 s1 s2 s3 L1a L2a L3a b4 hT hO
 obtain ⟨z0,z1,z2,z3,z4⟩:=cells5 L3b
 obtain ⟨f0,f1,f2,f3,f4⟩:=frz5 L3b
 have bz:=b5.trans (bI (v0:=F TA x.t.length tc) (v1:=F OA x.o.length oc) (v2:=O U x.got) (v3:=O U x.sold) (v4:=O U x.missed) L3b (show w.heap.size≤w.heap.size+1+1 by omega))
 have HT:=Lib.hid (aV (v0:=F TA x.t.length tc) (v1:=F OA x.o.length oc) (v2:=O U x.got) (v3:=O U x.sold) (v4:=O U x.missed) L3b hT4 cy)
 have HO:=Lib.hid (aV (v0:=F TA x.t.length tc) (v1:=F OA x.o.length oc) (v2:=O U x.got) (v3:=O U x.sold) (v4:=O U x.missed) L3b hO4 cR)
 clear hT4 hO4 b5 hR1 hb2
 simp only [aL.c,Oc.at,aL.val]
 go_wp2
 refine bodyPost_ret (v:=.tuple #[.agg #[F TA x.t.length tc,F OA x.o.length oc,O U x.got,O U x.sold,O U x.missed],.bool false]) (by simp [results,Tryz.results127,go_sem, *]) rfl ?_
 exact ⟨TA,tc,OA,oc,rfl,HT.out,HO.out,bz⟩
end Go.Proofs.YtoeoimhemojdeaaGreatDoor
