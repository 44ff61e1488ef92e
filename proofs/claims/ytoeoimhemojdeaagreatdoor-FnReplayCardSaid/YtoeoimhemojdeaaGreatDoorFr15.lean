/- Lemmas. -/
import Derived.Test.YtoeoimhemojdeaaGreatDoorFr14

set_option linter.unusedVariables false
set_option linter.unusedSimpArgs false
set_option maxHeartbeats 8000000
open Go.Value renaming int → O, slice → F, string → xh
open Go.IntKind renaming i64 → U
open Go.Proofs.Tryz renaming prog → xi

namespace Go.Proofs.YtoeoimhemojdeaaGreatDoor
open Go.RowKit
def ed (w:World) (R:Option ByteArray) (e:Ending) (w' : World):Prop :=
 (∃ s,e=.returned (.tuple #[xh s,.bool R.isSome])∧(∀ r,R=some r→s=r))∧Below w.heap.size w w'
theorem ed.yes {w w' : World} {r:ByteArray} (hb:Below w.heap.size w w'):ed w (some r) (.returned (.tuple #[xh r,.bool true])) w':=⟨⟨r,rfl,fun _ h=>by injection h⟩,hb⟩
theorem ed.no {w w' : World} {s:ByteArray} (hb:Below w.heap.size w w'):ed w none (.returned (.tuple #[xh s,.bool false])) w':=⟨⟨s,rfl,fun _ h=>by cases h⟩,hb⟩
theorem l7 (A:Option Addr) (c:Nat) (l:List Int) (ok:Bool) (w:World) (h:iS w w.heap.size A l) (Fl:l.length≤8) (hr:∀ n ∈ l,0≤n∧n≤1000000) (ht:jj w) :
  Calls xi 153 #[F A l.length c,.bool ok] w fun e w'=>e=.returned (.tuple #[xh (fC l),.bool ok])∧Below w.heap.size w w':=by
 rcases Nat.eq_zero_or_pos l.length with h0 | h0
 ·have HL:Hid (fC l=⟨#[110,111,110,101]⟩):=by unfold Hid fC; rw [if_pos h0]
  have hz:((l.length:Int) == 0)=true:=by rw [h0]; rfl
  go_enter Tryz.func153,Tryz.ntmps153
  go_wp2
  go_ret2
  exact ⟨by rw [HL.out]; rfl,Below.refl _ _⟩
 ·have hz:((l.length:Int) == 0)=false:=beq_false_of_ne oM
  have HL:Hid (fC l=⟨(Lib.join (l.map Lib.itoa) (bl ⟨#[32]⟩)).toArray⟩):=by unfold Hid fC; rw [if_neg oM]; rfl
  have hj:=pk A c l ⟨#[32]⟩ w h oM (fun i hi=>hr _ (List.getElem_mem hi)) dD ht
  obtain ⟨T,hT⟩ : ∃ T:ByteArray,(⟨(Lib.join (l.map Lib.itoa) (bl ⟨#[32]⟩)).toArray⟩ : ByteArray)=T:=⟨_,rfl⟩
  rw [hT] at hj HL
  clear hT
  go_enter Tryz.func153,Tryz.ntmps153
  go_wp2_with fail
  refine hj.mono ?_
  rintro e w1 ⟨rfl,hb⟩
  go_wp2
  go_ret2
  exact ⟨by rw [HL.out]; rfl,hb⟩
theorem uR {x:aN} (G:bK x) (n:Int) (b:Bool):(bC b (aT (fun r:ae=>decide (r.p=n)) ae.k x.o)).length≤8∧∀ m ∈ bC b (aT (fun r:ae=>decide (r.p=n)) ae.k x.o),0≤m∧m≤1000000:=by
 refine ⟨(rG G n b).1,fun m hm=>?_⟩
 cases b
 ·simp [bC] at hm
 ·obtain ⟨r,hr,_,rfl⟩:=fW.1 (show m ∈ aT _ _ _ from hm)
  obtain ⟨j,hj,e⟩:=List.getElem_of_mem hr
  have h1:=eC G.tall (ae.bounds (G.oall j hj)).1
  rw [e] at h1; omega
theorem rM {x:aN} (G:bK x) (n:Int) (b:Bool):(bC b (aT (fun r:ae=>decide (r.k=n)) ae.p x.o)).length≤8∧∀ m ∈ bC b (aT (fun r:ae=>decide (r.k=n)) ae.p x.o),0≤m∧m≤1000000:=by
 refine ⟨(oG G n b).1,fun m hm=>?_⟩
 cases b
 ·simp [bC] at hm
 ·obtain ⟨r,hr,_,rfl⟩:=fW.1 (show m ∈ aT _ _ _ from hm)
  obtain ⟨j,hj,e⟩:=List.getElem_of_mem hr
  have h1:=(ae.bounds (G.oall j hj)).2.1
  rw [e] at h1; omega
theorem qy (o:ae) (w:World):Calls xi 151 (#[o.val]++#[]) w fun e w'=>e=.returned (.bool (dq o))∧Below w.heap.size w w':=by
 go_enter Tryz.func151,Tryz.ntmps151
 go_wp2
 go_ret
 refine ⟨rfl, ?_⟩
 go_grown
set_option maxRecDepth 100000 in
theorem pK (x:aN) (l:Lg) (s:ByteArray) (g:Nat) (w:World) (hL:ai w g 42 [F x.TA x.t.length x.tc,F x.OA x.o.length x.oc,O U x.gt,O U x.sd,O U x.ms,xh l.D,xh l.P,O U l.n]) (h:aQ w w.heap.size x) (G:bK x) (ht:jj w) :
  Calls xi 97 #[.pointer (some ⟨g,0,none⟩),xh s] w (ed w (dy x s)):=by
 have hat:cu w w.heap.size g x:=lm hL h
 have zz:ap x=true:=bu.2 G
 by_cases h0:s=⟨#[105,110]⟩
 ·subst h0
  have HV:dy x ⟨#[105,110]⟩=some (bM (cF x.t)):=by unfold dy; rw [if_pos rfl]
  rw [HV]
  clear HV
  have bd:=G.inB
  have hn:=fun W hW=>dE (cF x.t) W oM oM hW
  obtain ⟨T,hT⟩ : ∃ T:ByteArray,(⟨(Lib.itoa (cF x.t)).toArray⟩ : ByteArray)=T:=⟨_,rfl⟩
  rw [show bM (cF x.t)=T from hT]
  rw [hT] at hn
  clear hT bd
  have hc:=jI x g w hat G.tl G.tall
  go_enter Tryz.func97,Tryz.ntmps97
  go_wp2_with fail
  refine hc.mono ?_
  rintro e w1 ⟨rfl,xp⟩
  go_wp2_with fail
  refine (hn _ (ht.then xp)).mono ?_
  rintro e w2 ⟨rfl,xn⟩
  go_wp2
  go_ret2
  exact ed.yes (av xp xn)
 have f0:(s.toList == [105,110])=false:=bW h0
 by_cases h1:s=⟨#[111,117,116]⟩
 ·subst h1
  have HV:dy x ⟨#[111,117,116]⟩=some (bM (aW dq x.o)):=by unfold dy; rw [if_neg dD,if_pos rfl]
  rw [HV]
  clear HV
  have bd:=G.outB dq
  have hn:=fun W hW=>dE (aW dq x.o) W oM oM hW
  obtain ⟨T,hT⟩ : ∃ T:ByteArray,(⟨(Lib.itoa (aW dq x.o)).toArray⟩ : ByteArray)=T:=⟨_,rfl⟩
  rw [show bM (aW dq x.o)=T from hT]
  rw [hT] at hn
  clear hT bd
  have eg:∀ args w,(callFunc 151 args).run xi w=.ok (.enter 151 args) w:=Tryz.call151
  have hc:=fG dq 151 #[] eg x g w (fun o p=>qy o p.val) hat G.ol G.oall
  go_enter Tryz.func97,Tryz.ntmps97
  go_wp2_with fail
  refine hc.mono ?_
  rintro e w1 ⟨rfl,xp⟩
  go_wp2_with fail
  refine (hn _ (ht.then xp)).mono ?_
  rintro e w2 ⟨rfl,xn⟩
  go_wp2
  go_ret2
  exact ed.yes (av xp xn)
 have f1:(s.toList == [111,117,116])=false:=bW h1
 by_cases h2:s=⟨#[103,111,116]⟩
 ·subst h2
  have HV:dy x ⟨#[103,111,116]⟩=some (bM (x.gt)):=by unfold dy; rw [if_neg dD,if_neg dD,if_pos rfl]
  rw [HV]
  clear HV
  have bd:=G.g
  have hn:=fun W hW=>dE (x.gt) W oM oM hW
  obtain ⟨T,hT⟩ : ∃ T:ByteArray,(⟨(Lib.itoa (x.gt)).toArray⟩ : ByteArray)=T:=⟨_,rfl⟩
  rw [show bM (x.gt)=T from hT]
  rw [hT] at hn
  clear hT bd
  obtain ⟨c0,c1,c2,c3,c4⟩:=cells5 hL
  go_enter Tryz.func97,Tryz.ntmps97
  go_wp2_with fail
  refine (hn _ ht).mono ?_
  rintro e w2 ⟨rfl,xn⟩
  go_wp2
  go_ret2
  exact ed.yes xn
 have f2:(s.toList == [103,111,116])=false:=bW h2
 by_cases h3:s=⟨#[115,111,108,100]⟩
 ·subst h3
  have HV:dy x ⟨#[115,111,108,100]⟩=some (bM (x.sd)):=by unfold dy; rw [if_neg dD,if_neg dD,if_neg dD,if_pos rfl]
  rw [HV]
  clear HV
  have bd:=G.s
  have hn:=fun W hW=>dE (x.sd) W oM oM hW
  obtain ⟨T,hT⟩ : ∃ T:ByteArray,(⟨(Lib.itoa (x.sd)).toArray⟩ : ByteArray)=T:=⟨_,rfl⟩
  rw [show bM (x.sd)=T from hT]
  rw [hT] at hn
  clear hT bd
  obtain ⟨c0,c1,c2,c3,c4⟩:=cells5 hL
  go_enter Tryz.func97,Tryz.ntmps97
  go_wp2_with fail
  refine (hn _ ht).mono ?_
  rintro e w2 ⟨rfl,xn⟩
  go_wp2
  go_ret2
  exact ed.yes xn
 have f3:(s.toList == [115,111,108,100])=false:=bW h3
 by_cases h4:s=⟨#[109,105,115,115,101,100]⟩
 ·subst h4
  have HV:dy x ⟨#[109,105,115,115,101,100]⟩=some (bM (x.ms)):=by unfold dy; rw [if_neg dD,if_neg dD,if_neg dD,if_neg dD,if_pos rfl]
  rw [HV]
  clear HV
  have bd:=G.m
  have hn:=fun W hW=>dE (x.ms) W oM oM hW
  obtain ⟨T,hT⟩ : ∃ T:ByteArray,(⟨(Lib.itoa (x.ms)).toArray⟩ : ByteArray)=T:=⟨_,rfl⟩
  rw [show bM (x.ms)=T from hT]
  rw [hT] at hn
  clear hT bd
  obtain ⟨c0,c1,c2,c3,c4⟩:=cells5 hL
  go_enter Tryz.func97,Tryz.ntmps97
  go_wp2_with fail
  refine (hn _ ht).mono ?_
  rintro e w2 ⟨rfl,xn⟩
  go_wp2
  go_ret2
  exact ed.yes xn
 have f4:(s.toList == [109,105,115,115,101,100])=false:=bW h4
 by_cases h5:s=⟨#[98,117,115,105,101,115,116]⟩
 ·subst h5
  have HV:dy x ⟨#[98,117,115,105,101,115,116]⟩=if dn x then some (bM (dM x)) else none:=by unfold dy; rw [if_neg dD,if_neg dD,if_neg dD,if_neg dD,if_neg dD,if_pos rfl]
  rw [HV]
  clear HV
  have hc:=kb x w h
  have bd:=vJ (x:=x)
  have hn:=fun W hW=>dE (dM x) W oM oM hW
  obtain ⟨T,hT⟩ : ∃ T:ByteArray,(⟨(Lib.itoa (dM x)).toArray⟩ : ByteArray)=T:=⟨_,rfl⟩
  rw [show bM (dM x)=T from hT]
  rw [hT] at hn
  clear hT
  obtain ⟨v,hv⟩ : ∃ v,dM x=v:=⟨_,rfl⟩
  rw [hv] at hc hn
  clear hv bd
  obtain ⟨b,hb⟩ : ∃ b,dn x=b:=⟨_,rfl⟩
  rw [hb] at hc ⊢
  clear hb
  obtain ⟨c0,c1,c2,c3,c4⟩:=cells5 hL
  cases b
  all_goals
   go_enter Tryz.func97,Tryz.ntmps97
   go_wp2_with fail
   refine hc.mono ?_
   rintro e w1 ⟨rfl,xp⟩
   go_wp2_with fail
   refine (hn _ (ht.then xp)).mono ?_
   rintro e w2 ⟨rfl,xn⟩
   go_wp2
   go_ret2
   first
    | exact ed.yes (av xp xn)
    | exact ed.no (av xp xn)
 have f5:(s.toList == [98,117,115,105,101,115,116])=false:=bW h5
 have HV:dy x s=none:=by unfold dy; rw [if_neg h0,if_neg h1,if_neg h2,if_neg h3,if_neg h4,if_neg h5]
 rw [HV]
 clear h0 h1 h2 h3 h4 h5 HV
 have hn:=fun W hW=>dE 0 W oM oM hW
 obtain ⟨T,hT⟩ : ∃ T:ByteArray,(⟨(Lib.itoa 0).toArray⟩ : ByteArray)=T:=⟨_,rfl⟩
 rw [hT] at hn
 clear hT
 go_enter Tryz.func97,Tryz.ntmps97
 go_wp2_with fail
 refine (hn _ ht).mono ?_
 rintro e w2 ⟨rfl,xn⟩
 go_wp2
 go_ret2
 exact ed.no xn
set_option maxRecDepth 100000 in
theorem t7 (x:aN) (l:Lg) (s:ByteArray) (n:Int) (g:Nat) (w:World) (hL:ai w g 42 [F x.TA x.t.length x.tc,F x.OA x.o.length x.oc,O U x.gt,O U x.sd,O U x.ms,xh l.D,xh l.P,O U l.n]) (h:aQ w w.heap.size x) (G:bK x) (ht:jj w) :
  Calls xi 98 #[.pointer (some ⟨g,0,none⟩),xh s,O U n] w (ed w (ia x s n)):=by
 obtain ⟨c0,c1,c2,c3,c4⟩:=cells5 hL
 by_cases h0:s=⟨#[97,116]⟩
 ·subst h0
  have HV:ia x ⟨#[97,116]⟩ n=lp x n:=by unfold ia; rw [if_pos rfl]
  rw [HV]
  clear HV
  have BD:=uR G n (ap x && bX n 1 999)
  have hc:=nx x n w h
  have HT:lp x n=if (ap x && bX n 1 999)=true then some (fC (bC (ap x && bX n 1 999) (aT (fun r:ae=>decide (r.p=n)) ae.k x.o))) else none:=rfl
  rw [HT]
  clear HT
  obtain ⟨ok,xq⟩ : ∃ b,(ap x && bX n 1 999)=b:=⟨_,rfl⟩
  obtain ⟨ns,zy⟩ : ∃ b,bC (ap x && bX n 1 999) (aT (fun r:ae=>decide (r.p=n)) ae.k x.o)=b:=⟨_,rfl⟩
  rw [zy] at BD hc ⊢
  rw [xq] at hc ⊢
  have hl:=fun W A c hR hT=>l7 A c ns ok W hR BD.1 BD.2 hT
  clear xq zy BD
  obtain ⟨T,hT⟩ : ∃ T,fC ns=T:=⟨_,rfl⟩
  rw [hT] at hl ⊢
  clear hT
  cases ok
  all_goals
   go_enter Tryz.func98,Tryz.ntmps98
   go_wp2_with fail
   refine hc.mono ?_
   rintro e w1 ⟨A',c',rfl,hO,xp⟩
   go_wp2_with fail
   refine (hl _ A' c' hO.reads (ht.then xp)).mono ?_
   rintro e w2 ⟨rfl,xn⟩
   go_wp2
   go_ret2
   first
    | exact ed.yes (av xp xn)
    | exact ed.no (av xp xn)
 have f0:(s.toList == [97,116])=false:=bW h0
 by_cases h1:s=⟨#[119,105,116,104]⟩
 ·subst h1
  have HV:ia x ⟨#[119,105,116,104]⟩ n=iJ x n:=by unfold ia; rw [if_neg dD,if_pos rfl]
  rw [HV]
  clear HV
  have BD:=rM G n (ap x && aS x.t n)
  have hc:=kS x n w h
  have HT:iJ x n=if (ap x && aS x.t n)=true then some (fC (bC (ap x && aS x.t n) (aT (fun r:ae=>decide (r.k=n)) ae.p x.o))) else none:=rfl
  rw [HT]
  clear HT
  obtain ⟨ok,xq⟩ : ∃ b,(ap x && aS x.t n)=b:=⟨_,rfl⟩
  obtain ⟨ns,zy⟩ : ∃ b,bC (ap x && aS x.t n) (aT (fun r:ae=>decide (r.k=n)) ae.p x.o)=b:=⟨_,rfl⟩
  rw [zy] at BD hc ⊢
  rw [xq] at hc ⊢
  have hl:=fun W A c hR hT=>l7 A c ns ok W hR BD.1 BD.2 hT
  clear xq zy BD
  obtain ⟨T,hT⟩ : ∃ T,fC ns=T:=⟨_,rfl⟩
  rw [hT] at hl ⊢
  clear hT
  cases ok
  all_goals
   go_enter Tryz.func98,Tryz.ntmps98
   go_wp2_with fail
   refine hc.mono ?_
   rintro e w1 ⟨A',c',rfl,hO,xp⟩
   go_wp2_with fail
   refine (hl _ A' c' hO.reads (ht.then xp)).mono ?_
   rintro e w2 ⟨rfl,xn⟩
   go_wp2
   go_ret2
   first
    | exact ed.yes (av xp xn)
    | exact ed.no (av xp xn)
 have f1:(s.toList == [119,105,116,104])=false:=bW h1
 by_cases h2:s=⟨#[116,101,120,116]⟩
 ·subst h2
  have HV:ia x ⟨#[116,101,120,116]⟩ n=kw x n:=by unfold ia; rw [if_neg dD,if_neg dD,if_pos rfl]
  rw [HV]
  clear HV
  have hc:=mF x n w h ht
  have HT:kw x n=if (ap x && aS x.t n)=true then some (eH x n) else none:=rfl
  rw [HT]
  clear HT
  obtain ⟨ok,xq⟩ : ∃ b,(ap x && aS x.t n)=b:=⟨_,rfl⟩
  rw [xq] at hc ⊢
  obtain ⟨T,hT⟩ : ∃ T,eH x n=T:=⟨_,rfl⟩
  rw [hT] at hc ⊢
  clear hT xq
  cases ok
  all_goals
   go_enter Tryz.func98,Tryz.ntmps98
   go_wp2_with fail
   refine hc.mono ?_
   rintro e w1 ⟨rfl,xp⟩
   go_wp2
   go_ret2
   first
    | exact ed.yes xp
    | exact ed.no xp
 have f2:(s.toList == [116,101,120,116])=false:=bW h2
 have HV:ia x s n=none:=by unfold ia; rw [if_neg h0,if_neg h1,if_neg h2]
 rw [HV]
 clear h0 h1 h2 HV
 go_enter Tryz.func98,Tryz.ntmps98
 go_wp2
 go_ret2
 exact ed.no jB
theorem cp (x:aN) (g:Nat) (w:World) (h:cu w w.heap.size g x) (tl:x.t.length≤1000000) (ol:x.o.length≤1000000) :
  Calls xi 93 #[.pointer (some ⟨g,0,none⟩)] w fun e w'=>∃ TA tc OA oc,e=.returned (.agg #[F TA x.t.length tc,F OA x.o.length oc,O U x.gt,O U x.sd,O U x.ms])∧w'.ownsRow w.heap.size 104 2 (F TA x.t.length tc) x.t.length (x.t.flatMap ar.enc)∧w'.ownsRow w.heap.size 147 3 (F OA x.o.length oc) x.o.length (x.o.flatMap ae.enc)∧Below w.heap.size w w':=n6 x g w h tl ol
set_option maxRecDepth 100000 in
theorem fY (x:aN) (g:Nat) (kd:Int) (st pe va:Int) (w:World) (h:cu w w.heap.size g x) (G:bK x) (hk:(kd == 1)=false) (hI:ay x.t st < 0) :
  Calls xi 186 #[.pointer (some ⟨g,0,none⟩),.agg #[O U kd,O U st,O U pe,O U va]] w (aE w (bm x.c ⟨kd,st,pe,va⟩)):=by
 have HN:Hid (bm x.c ⟨kd,st,pe,va⟩=none):=by
  unfold Hid bm
  rw [if_neg (by simpa using hk),if_pos (by show ¬ 0≤ay x.t st; omega)]
 have L1:=(ai.new w 112 #[O U kd,O U st,O U pe,O U va]).alloc (.cells #[F none 0 0,F none 0 0,O U 0,O U 0,O U 0] 40)
 have L2:=ai.new1 w (.cells #[O U kd,O U st,O U pe,O U va] 112) 40 #[F none 0 0,F none 0 0,O U 0,O U 0,O U 0]
 have b1:=bZ w (.cells #[O U kd,O U st,O U pe,O U va] 112)
 have b2:=b1.alloc b1.size (.cells #[F none 0 0,F none 0 0,O U 0,O U 0,O U 0] 40)
 have hA:=h.then b2 b2.size
 have tl:=G.tl
 have ol:=G.ol
 clear b1
 go_enter Tryz.func186,Tryz.ntmps186
 go_wp2_with fail
 generalize ((w.alloc (.cells #[O U kd,O U st,O U pe,O U va] 112)).alloc (.cells #[F none 0 0,F none 0 0,O U 0,O U 0,O U 0] 40))=W2 at L1 L2 b2 hA ⊢
 refine (cp x g W2 hA oM oM).mono ?_
 rintro e W3 ⟨TA,tc,OA,oc,rfl,hT,hO,k3⟩
 have xo:=(Below.refl W3.heap.size W3).alloc nR (.cells #[F TA x.t.length tc,F OA x.o.length oc,O U x.gt,O U x.sd,O U x.ms] 40)
 have xE:aC (W3.alloc (.cells #[F TA x.t.length tc,F OA x.o.length oc,O U x.gt,O U x.sd,O U x.ms] 40)) W2.heap.size W3.heap.size _ _ x.c:=⟨ai.new W3 40 #[F TA x.t.length tc,F OA x.o.length oc,O U x.gt,O U x.sd,O U x.ms],k3.size,ac hT xo,ac hO xo⟩
 have k4:=k3.trans (xo.mono k3.size)
 obtain ⟨s0,s1⟩:=cells2 (L1.below k4 L1.lt)
 have hgO:w.heap.size+1 < W3.heap.size:=jL L2.lt k3.size
 clear hT hO k3
 go_wp2_with fail
 clear s0 s1 xo
 generalize W3.alloc (.cells #[F TA x.t.length tc,F OA x.o.length oc,O U x.gt,O U x.sd,O U x.ms] 40)=W4 at xE k4 ⊢
 generalize W3.heap.size=gO at xE hgO ⊢
 refine (br (x.c.at TA tc OA oc) gO st W4 (aC.at_ (y:=x.c) xE)).mono ?_
 rintro e W5 ⟨rfl,hb5⟩
 have xK:=xE.then hb5
 have k5:=k4.trans (hb5.mono k4.size)
 rw [show ay (x.c.at TA tc OA oc).t st=ay x.t st from rfl]
 generalize ay x.t st=I at hI ⊢
 have xx:=L2.below k5 L2.lt
 have z0:=xx.cell 0
 have z1:=xx.cell 1
 have z2:=xx.cell 2
 have z3:=xx.cell 3
 have z4:=xx.cell 4
 obtain ⟨f0,f1,f2,f3,f4⟩:=frz5 xx
 simp only [gz0,gz1] at z0 z1 z2 z3 z4
 have xC:=ab (g:=w.heap.size+1) (i:=4) (u:=O U 0) (gw4 W5 (w.heap.size+1) (F none 0 0) (F none 0 0) (O U 0) (O U 0))
 have bw:=b2.trans (k5.mono b2.size)
 have bz:=bw.grown xC bw.size (by rintro _ ⟨⟩; omega)
 go_wp2
 rw [HN.out]
 refine bodyPost_ret (v:=.tuple #[.agg #[F none 0 0,F none 0 0,O U 0,O U 0,O U 0],.bool false]) (by simp [results,Tryz.results186,go_sem, *]) rfl (aE.no rfl bz)
set_option maxRecDepth 100000 in
theorem rO (x:aN) (g:Nat) (st pe va:Int) (w:World) (h:cu w w.heap.size g x) (G:bK x) (i:Nat) (hi:i < x.t.length) (hI:ay x.t st=i) (yE:pe=0) (zR:1≤va∧va≤9999) :
  Calls xi 186 #[.pointer (some ⟨g,0,none⟩),.agg #[O U 1,O U st,O U pe,O U va]] w (aE w (bm x.c ⟨1,st,pe,va⟩)):=by
 subst yE
 obtain ⟨tr,ze⟩ : ∃ tr,x.c.t[i]=tr:=⟨_,rfl⟩
 obtain ⟨r,hr⟩ : ∃ r:Oc,r=⟨x.t.set i ⟨tr.k,tr.c+va⟩,x.o,x.gt+va,x.sd,x.ms⟩:=⟨_,rfl⟩
 have HR:Hid (bm x.c ⟨1,st,0,va⟩=Oc.fin r):=by
  unfold Hid bm
  rw [if_pos rfl]
  rw [show aj x.c.t st (va)=x.t.set i ⟨tr.k,tr.c+va⟩ from by show aj x.t st _=_; rw [iA hI hi,show x.t[i]=tr from ze]]
  rw [hr]
  rfl
 have BM:=G.at_bd st 0
 have y8:(0:Int)≤(i:Int):=oM
 have OD : ¬ (i:Int) < 0:=oM
 have Bz:=(ar.bounds (G.tall i hi)).2
 rw [show x.t[i]=tr from ze] at Bz
 obtain ⟨AT,CG⟩:=Bz
 have yF:=G.g
 obtain ⟨Ex,Ey⟩:=yF
 obtain ⟨CL,CM⟩:=zR
 have L1:=(ai.new w 112 #[O U 1,O U st,O U 0,O U va]).alloc (.cells #[F none 0 0,F none 0 0,O U 0,O U 0,O U 0] 40)
 have L2:=ai.new1 w (.cells #[O U 1,O U st,O U 0,O U va] 112) 40 #[F none 0 0,F none 0 0,O U 0,O U 0,O U 0]
 have b1:=bZ w (.cells #[O U 1,O U st,O U 0,O U va] 112)
 have b2:=b1.alloc b1.size (.cells #[F none 0 0,F none 0 0,O U 0,O U 0,O U 0] 40)
 have hA:=h.then b2 b2.size
 have tl:=G.tl
 have ol:=G.ol
 clear b1
 go_enter Tryz.func186,Tryz.ntmps186
 go_wp2_with fail
 generalize ((w.alloc (.cells #[O U 1,O U st,O U 0,O U va] 112)).alloc (.cells #[F none 0 0,F none 0 0,O U 0,O U 0,O U 0] 40))=W2 at L1 L2 b2 hA ⊢
 refine (cp x g W2 hA oM oM).mono ?_
 rintro e W3 ⟨TA,tc,OA,oc,rfl,hT,hO,k3⟩
 obtain ⟨gT,cT,_,Ci,_,_,_⟩:=cg hT oM
 injection Ci with e1 e2 e3
 subst e1; subst e3
 have xo:=(Below.refl W3.heap.size W3).alloc nR (.cells #[F (some ⟨gT,0,none⟩) x.t.length tc,F OA x.o.length oc,O U x.gt,O U x.sd,O U x.ms] 40)
 have xE:aC (W3.alloc (.cells #[F (some ⟨gT,0,none⟩) x.t.length tc,F OA x.o.length oc,O U x.gt,O U x.sd,O U x.ms] 40)) W2.heap.size W3.heap.size _ _ x.c:=⟨ai.new W3 40 #[F (some ⟨gT,0,none⟩) x.t.length tc,F OA x.o.length oc,O U x.gt,O U x.sd,O U x.ms],k3.size,ac hT xo,ac hO xo⟩
 have k4:=k3.trans (xo.mono k3.size)
 obtain ⟨s0,s1⟩:=cells2 (L1.below k4 L1.lt)
 have hgO:w.heap.size+1 < W3.heap.size:=jL L2.lt k3.size
 clear hT hO k3
 have FI:=hA.then k4 k4.size
 go_wp2_with fail
 clear s0 s1 xo
 generalize W3.alloc (.cells #[F (some ⟨gT,0,none⟩) x.t.length tc,F OA x.o.length oc,O U x.gt,O U x.sd,O U x.ms] 40)=W4 at xE k4 FI ⊢
 generalize W3.heap.size=gO at xE hgO ⊢
 refine (br x g st W4 FI).mono ?_
 rintro e W4b ⟨rfl,xy⟩
 rw [hI]
 have zN:=xE.then xy
 have k4b:=k4.trans (xy.mono k4.size)
 have zg:=L1.below k4b L1.lt
 have s1:=zg.cell 1
 simp only [gz0,gz1] at s1
 go_wp2_with fail
 refine (br (x.c.at (some ⟨gT,0,none⟩) tc OA oc) gO st W4b (aC.at_ (y:=x.c) zN)).mono ?_
 rintro e W5 ⟨rfl,hb5⟩
 have xK:=zN.then hb5
 have k5:=k4b.trans (hb5.mono k4b.size)
 clear s1 zg zN xy k4b FI
 rw [show ay (x.c.at (some ⟨gT,0,none⟩) tc OA oc).t st=ay x.t st from rfl,hI]
 have yR:=L1.below k5 L1.lt
 have zO:=hA.then k5 k5.size
 have De:∀ (fn:Fn) (first cap:Array Value) (w:World),(Instr.makeFunc fn first cap).run xi w=.ok (.func fn first cap) w:=fun _ _ _ _=>rfl
 go_wp2_with fail
 refine (dN (B:=0) yR zO G (Nat.zero_le _)).mono ?_
 rintro e W6 ⟨rfl,xT⟩
 have xz:=xK.then xT
 have k6:=k5.trans (xT.mono k5.size)
 have zu:=L1.below k6 L1.lt
 obtain ⟨s0,s1,s2,s3⟩:=cells4 zu
 clear yR zO xK xE hb5 xT k4
 generalize aO st 0 x.o=N at *
 obtain ⟨Cj,Ck⟩:=BM
 have c0:=xz.lies.cell 0
 simp only [List.getElem?_cons_zero] at c0
 obtain ⟨v,hv⟩ : ∃ v,(N == 0)=v:=⟨_,rfl⟩
 cases v
 all_goals
  go_wp2
  obtain ⟨yI,kt,ct,cf⟩:=aC.setT' (y:=x.c) (xz.then jB.drew) hi tr ze (tr.c+va)
  have kd:=k6.drew
  have zl:=L1.below kd L1.lt
  have u1:=zl.cell 1
  have u2:=zl.cell 2
  have u3:=zl.cell 3
  simp only [gz0,gz1] at u1 u2 u3
  go_still_tail 9,kZ
  change wpList _ _ _ _ _ W6.drew
  generalize W6.drew=Wd at yI kt ct cf kd zl u1 u2 u3 ⊢
  have k7:=kd.trans kt
  have hneT : ¬ gT=w.heap.size:=fun e=>by have:=(yI.t.lt gT rfl).1; have:=L1.lt; omega
  have hneT' : ¬ w.heap.size=gT:=fun e=>hneT e.symm
  have hneO : ¬ gO=w.heap.size:=oM
  have hneO' : ¬ w.heap.size=gO:=oM
  have hneG : ¬ gT=gO:=fun e=>yI.ne_t (by rw [← e]; rfl)
  have hneG' : ¬ gO=gT:=fun e=>hneG e.symm
  have d2:Wd.cell? ⟨gO,2,none⟩=some (O U x.gt):=by
   have:=yI.lies.cell 2
   rw [World.cell?_setCell_other _ _ _ _ sP] at this
   exact this
  have d2f:Wd.frozen? ⟨gO,2,none⟩=false:=by
   have:=yI.lies.frozen 2
   rwa [World.frozen?_setCell] at this
  have FJ:=(yI.setN (x.gt+va)).1
  have k8:=k7.trans (yI.belowN 2 (O U (x.gt+va)))
  go_wp2_with fail
  generalize (Wd.setCell ⟨gT,i * 2+1,none⟩ (O U (tr.c+va))).setCell ⟨gO,2,none⟩ (O U (x.gt+va))=W8 at FJ k8 ⊢
  replace xI:∃ vt vo,aC W8 W2.heap.size gO vt vo r:=⟨_,_,by rw [hr]; exact FJ⟩
  obtain ⟨vt,vo,xI⟩:=xI
  clear hr yI FJ xz c0 ct cf u1 u2 u3 s0 s1 s2 s3 zu zl kt kd k7 k6 k5 d2 d2f
  obtain ⟨A1,a1,A2,a2,rfl,rfl⟩:=xI.form
  have cV:=aZ (r.at A1 a1 A2 a2) gO W8 (aC.at_ (y:=r) xI)
  rw [Oc.good_at] at cV
  cases hg:r.good
  ·rw [hg] at cV
   have HN:Hid (bm x.c ⟨1,st,0,va⟩=none):=by unfold Hid; rw [HR.out,Oc.fin,hg]; rfl
   clear hg
   go_wp2_with fail
   refine cV.mono ?_
   rintro e W9 ⟨rfl,hb9⟩
   have k9:=k8.trans (hb9.mono k8.size)
   clear hb9 cV
   have xx:=L2.below k9 L2.lt
   have z0:=xx.cell 0
   have z1:=xx.cell 1
   have z2:=xx.cell 2
   have z3:=xx.cell 3
   have z4:=xx.cell 4
   obtain ⟨f0,f1,f2,f3,f4⟩:=frz5 xx
   simp only [gz0,gz1] at z0 z1 z2 z3 z4
   have xC:=ab (g:=w.heap.size+1) (i:=4) (u:=O U 0) (gw4 W9 (w.heap.size+1) (F none 0 0) (F none 0 0) (O U 0) (O U 0))
   have bw:=b2.trans (k9.mono b2.size)
   have bz:=bw.grown xC bw.size (by rintro _ ⟨⟩; omega)
   go_wp2
   rw [HN.out]
   refine bodyPost_ret (v:=.tuple #[.agg #[F none 0 0,F none 0 0,O U 0,O U 0,O U 0],.bool false]) (by simp [results,Tryz.results186,go_sem, *]) rfl (aE.no rfl bz)
  ·rw [hg] at cV
   have HN:Hid (bm x.c ⟨1,st,0,va⟩=some r):=by unfold Hid; rw [HR.out,Oc.fin,hg]; rfl
   clear hg
   go_wp2_with fail
   refine cV.mono ?_
   rintro e W9 ⟨rfl,hb9⟩
   have k9:=k8.trans (hb9.mono k8.size)
   have yk:=xI.then hb9
   clear hb9 cV xI
   obtain ⟨c0,c1,c2,c3,c4⟩:=cells5 yk.lies
   have xx:=L2.below k9 L2.lt
   have z0:=xx.cell 0
   have z1:=xx.cell 1
   have z2:=xx.cell 2
   have z3:=xx.cell 3
   have z4:=xx.cell 4
   obtain ⟨f0,f1,f2,f3,f4⟩:=frz5 xx
   simp only [gz0,gz1] at z0 z1 z2 z3 z4
   have xC:=ab (g:=w.heap.size+1) (i:=4) (u:=O U r.ms) (gw4 W9 (w.heap.size+1) (F A1 r.t.length a1) (F A2 r.o.length a2) (O U r.gt) (O U r.sd))
   have bw:=b2.trans (k9.mono b2.size)
   have bz:=bw.grown xC bw.size (by rintro _ ⟨⟩; omega)
   have r8:=ag (ak yk.t xx fB xC) b2.size
   have r9:=ag (ak yk.o xx fj xC) b2.size
   have R8:=jZ r8; clear r8
   have R9:=jZ r9; clear r9
   clear xC yk
   go_wp2
   rw [HN.out]
   refine bodyPost_ret (v:=.tuple #[.agg #[F A1 r.t.length a1,F A2 r.o.length a2,O U r.gt,O U r.sd,O U r.ms],.bool true]) (by simp [results,Tryz.results186,go_sem, *]) rfl ?_
   exact aE.yes rfl R8.out R9.out bz
set_option maxRecDepth 100000 in
theorem rP (x:aN) (g:Nat) (st pe va:Int) (w:World) (h:cu w w.heap.size g x) (G:bK x) (hI:ay x.t st < 0) (xM:1≤st∧st≤99) (yE:pe=0) (zR:1≤va∧va≤9999) :
  Calls xi 186 #[.pointer (some ⟨g,0,none⟩),.agg #[O U 1,O U st,O U pe,O U va]] w (aE w (bm x.c ⟨1,st,pe,va⟩)):=by
 subst yE
 obtain ⟨Nx,Ny⟩:=xM
 have FK : ¬ 0≤ay x.t st:=oM
 have KE:=r7 FK
 have yw:=qI va FK
 have Az:=kC x.t st
 have Je:=qQ x.t st
 obtain ⟨y7,hat⟩:=sl x.t st
 have Gm:(x.t.flatMap ar.enc).take (dG x.t st * 2)++ar.enc ⟨st,0⟩++(x.t.flatMap ar.enc).drop (dG x.t st * 2)=(ef x.t st).flatMap ar.enc:=(qN ar.enc 2 ar.enc_len x.t (dG x.t st) ⟨st,0⟩).symm
 have Bj:∀ i (h:i < x.t.length),i < dG x.t st→iQ x.t[i].k st < 0:=fun i h hi=>tO.2 (tK x.t st i h hi)
 have Cl:∀ i (h:i < x.t.length),dG x.t st≤i→¬ iQ x.t[i].k st < 0:=fun i h hi hc=>wb x.t st G.ascT i h hi (tO.1 hc)
 have Cm:∀ h:dG x.t st < x.t.length,false=decide (iQ x.t[dG x.t st].k st=0):=fun h=>by
  symm; rw [decide_eq_false_iff_not,uk]; exact mW FK _ (List.getElem_mem _)
 have cB:=fun (A:Option Addr) (c:Nat) (W:World) (hW:fE W W.heap.size A x.t)=>sg (fun t=>iQ t.k st) (O U st) 213 #[] Tryz.call213 A c x.t W (fun t p=>sj t st p.val) hW (by have:=G.tl; omega) (dG x.t st) Az Bj Cl false Cm (fun _=>rfl)
 obtain ⟨tr,DF⟩ : ∃ tr:ar,tr=⟨st,0⟩:=⟨_,rfl⟩
 have AT:0≤tr.c:=by rw [DF]; exact Int.le_refl _
 have CG:tr.c≤9999:=by rw [DF]; show (0:Int)≤9999; omega
 have zz:(ef x.t st).getD (dG x.t st) default=tr:=by rw [List.getD_eq_getElem?_getD,List.getElem?_eq_getElem y7,hat,DF]; rfl
 rw [zz] at yw
 rw [← DF] at hat
 clear zz Bj Cl Cm DF
 generalize ef x.t st=T1 at KE yw Je y7 hat Gm
 generalize dG x.t st=i at KE yw Az y7 hat Gm cB
 have hi:i < T1.length:=y7
 have ze:T1[i]=tr:=hat
 obtain ⟨r,hr⟩ : ∃ r:Oc,r=⟨T1.set i ⟨tr.k,tr.c+va⟩,x.o,x.gt+va,x.sd,x.ms⟩:=⟨_,rfl⟩
 have HR:Hid (bm x.c ⟨1,st,0,va⟩=Oc.fin r):=by
  unfold Hid bm
  rw [if_pos rfl]
  show Oc.fin ⟨aj x.t st va,x.o,x.gt+va,x.sd,x.ms⟩=_
  rw [yw,hr]
 have BM:=G.at_bd st 0
 have y8:(0:Int)≤(i:Int):=oM
 have Nz:=jZ Gm
 clear yw Gm hat y7
 have yF:=G.g
 obtain ⟨Ex,Ey⟩:=yF
 obtain ⟨CL,CM⟩:=zR
 have L1:=(ai.new w 112 #[O U 1,O U st,O U 0,O U va]).alloc (.cells #[F none 0 0,F none 0 0,O U 0,O U 0,O U 0] 40)
 have L2:=ai.new1 w (.cells #[O U 1,O U st,O U 0,O U va] 112) 40 #[F none 0 0,F none 0 0,O U 0,O U 0,O U 0]
 have b1:=bZ w (.cells #[O U 1,O U st,O U 0,O U va] 112)
 have b2:=b1.alloc b1.size (.cells #[F none 0 0,F none 0 0,O U 0,O U 0,O U 0] 40)
 have hA:=h.then b2 b2.size
 have tl:=G.tl
 have ol:=G.ol
 clear b1
 go_enter Tryz.func186,Tryz.ntmps186
 go_wp2_with fail
 generalize ((w.alloc (.cells #[O U 1,O U st,O U 0,O U va] 112)).alloc (.cells #[F none 0 0,F none 0 0,O U 0,O U 0,O U 0] 40))=W2 at L1 L2 b2 hA ⊢
 refine (cp x g W2 hA oM oM).mono ?_
 rintro e W3 ⟨TA,tc,OA,oc,rfl,hT,hO,k3⟩
 have xo:=(Below.refl W3.heap.size W3).alloc nR (.cells #[F TA x.t.length tc,F OA x.o.length oc,O U x.gt,O U x.sd,O U x.ms] 40)
 have xE:aC (W3.alloc (.cells #[F TA x.t.length tc,F OA x.o.length oc,O U x.gt,O U x.sd,O U x.ms] 40)) W2.heap.size W3.heap.size _ _ x.c:=⟨ai.new W3 40 #[F TA x.t.length tc,F OA x.o.length oc,O U x.gt,O U x.sd,O U x.ms],k3.size,ac hT xo,ac hO xo⟩
 have k4:=k3.trans (xo.mono k3.size)
 obtain ⟨s0,s1⟩:=cells2 (L1.below k4 L1.lt)
 have hgO:w.heap.size+1 < W3.heap.size:=jL L2.lt k3.size
 clear hT hO k3
 have FI:=hA.then k4 k4.size
 go_wp2_with fail
 clear s0 s1 xo
 generalize W3.alloc (.cells #[F TA x.t.length tc,F OA x.o.length oc,O U x.gt,O U x.sd,O U x.ms] 40)=W4 at xE k4 FI ⊢
 generalize W3.heap.size=gO at xE hgO ⊢
 refine (br x g st W4 FI).mono ?_
 rintro e W4b ⟨rfl,xy⟩
 generalize ay x.t st=I0 at hI ⊢
 have zN:=xE.then xy
 have k4b:=k4.trans (xy.mono k4.size)
 have zg:=L1.below k4b L1.lt
 have s1:=zg.cell 1
 simp only [gz0,gz1] at s1
 have q0:W4b.cell? ⟨gO,0,none⟩=some (F TA x.t.length tc):=zN.lies.cell 0
 go_wp2_with fail
 refine (cB TA tc W4b (an zN.t)).mono ?_
 rintro e W5 ⟨rfl,hb5⟩
 have xK:=zN.then hb5
 have k5:=k4b.trans (hb5.mono k4b.size)
 have yR:=L1.below k5 L1.lt
 clear s1 q0
 have s1:=yR.cell 1
 simp only [gz0,gz1] at s1
 have q0:W5.cell? ⟨gO,0,none⟩=some (F TA x.t.length tc):=xK.lies.cell 0
 have al5:=(Below.refl W5.heap.size W5).alloc nR (.cells #[O U st,O U 0] 104)
 have y6:=xK.then al5
 have cI:=qM W2.heap.size (F TA x.t.length tc) x.t.length (x.t.flatMap ar.enc) (W5.alloc (.cells #[O U st,O U 0] 104)) y6.t oM i Az ⟨st,0⟩ W5.heap.size 1 (ai.new W5 104 #[O U st,O U 0]) (fun e=>by have:=(xK.t.lt _ e).2; omega) (jT k5.size al5.size) eJ
 rw [Nz.out,← Je] at cI
 clear Je
 go_wp2_with fail
 clear s1 q0
 generalize W5.alloc (.cells #[O U st,O U 0] 104)=W5a at al5 y6 cI ⊢
 refine cI.mono ?_
 rintro e W5b ⟨v',rfl,AR,y5⟩
 obtain ⟨gT,tc',_,rfl,_,_,_⟩:=cg AR oM
 have k5b:Below W2.heap.size W2 W5b:=(k5.trans (al5.mono k5.size)).grown y5 (jT k5.size al5.size) (fun j hj=>(y6.t.lt j hj).1)
 have EP:=y6.lies.kept y5 (fun e=>y6.ne_t e.symm)
 have q0:W5b.cell? ⟨gO,0,none⟩=some (F TA x.t.length tc):=EP.cell 0
 have q1:=EP.frozen 0
 have AY:=y6.setTs y5 AR
 have k6a:=k5b.trans ((Below.refl W2.heap.size W5b).grown (ab (g:=gO) (i:=0) (u:=F (some ⟨gT,0,none⟩) T1.length tc') (World.grownBy.refl W5b (some gO))) k5b.size (by rintro _ ⟨⟩; exact y6.hg))
 have LX:=L1.below k5b L1.lt
 have s1:=LX.cell 1
 simp only [gz0,gz1] at s1
 have hneO : ¬ gO=w.heap.size:=oM
 have hneO' : ¬ w.heap.size=gO:=oM
 go_wp2_with fail
 generalize W5b.setCell ⟨gO,0,none⟩ (F (some ⟨gT,0,none⟩) T1.length tc')=W6a at AY k6a ⊢
 refine (br ((⟨T1,x.o,x.gt,x.sd,x.ms⟩ : Oc).at (some ⟨gT,0,none⟩) tc' OA oc) gO st W6a (aC.at_ (y:=⟨T1,x.o,x.gt,x.sd,x.ms⟩) AY)).mono ?_
 rintro e W6b ⟨rfl,hb6b⟩
 have DG:=AY.then hb6b
 have k5':=k6a.trans (hb6b.mono k6a.size)
 clear hneO hneO' s1 q0 q1 LX EP k5b y6 al5 xK k5 yR zN xy k4b FI cI cB y5 AR hb5 zg
 rw [show ay ((⟨T1,x.o,x.gt,x.sd,x.ms⟩ : Oc).at (some ⟨gT,0,none⟩) tc' OA oc).t st=ay T1 st from rfl,KE]
 have yR:=L1.below k5' L1.lt
 have zO:=hA.then k5' k5'.size
 have De:∀ (fn:Fn) (first cap:Array Value) (w:World),(Instr.makeFunc fn first cap).run xi w=.ok (.func fn first cap) w:=fun _ _ _ _=>rfl
 go_wp2_with fail
 refine (dN (B:=0) yR zO G (Nat.zero_le _)).mono ?_
 rintro e W6 ⟨rfl,xT⟩
 have xz:=DG.then xT
 have k6:=k5'.trans (xT.mono k5'.size)
 have zu:=L1.below k6 L1.lt
 obtain ⟨s0,s1,s2,s3⟩:=cells4 zu
 have k5:=k5'
 clear yR zO DG AY hb6b k6a xT k4
 generalize aO st 0 x.o=N at *
 obtain ⟨Cj,Ck⟩:=BM
 have c0:=xz.lies.cell 0
 simp only [List.getElem?_cons_zero] at c0
 obtain ⟨v,hv⟩ : ∃ v,(N == 0)=v:=⟨_,rfl⟩
 cases v
 all_goals
  go_wp2
  obtain ⟨yI,kt,ct,cf⟩:=aC.setT' (y:=⟨T1,x.o,x.gt,x.sd,x.ms⟩) (xz.then jB.drew) hi tr ze (tr.c+va)
  have kd:=k6.drew
  have zl:=L1.below kd L1.lt
  have u1:=zl.cell 1
  have u2:=zl.cell 2
  have u3:=zl.cell 3
  simp only [gz0,gz1] at u1 u2 u3
  go_still_tail 9,kZ
  change wpList _ _ _ _ _ W6.drew
  generalize W6.drew=Wd at yI kt ct cf kd zl u1 u2 u3 ⊢
  have k7:=kd.trans kt
  have hneT : ¬ gT=w.heap.size:=fun e=>by have:=(yI.t.lt gT rfl).1; have:=L1.lt; omega
  have hneT' : ¬ w.heap.size=gT:=fun e=>hneT e.symm
  have hneO : ¬ gO=w.heap.size:=oM
  have hneO' : ¬ w.heap.size=gO:=oM
  have hneG : ¬ gT=gO:=fun e=>yI.ne_t (by rw [← e]; rfl)
  have hneG' : ¬ gO=gT:=fun e=>hneG e.symm
  have d2:Wd.cell? ⟨gO,2,none⟩=some (O U x.gt):=by
   have:=yI.lies.cell 2
   rw [World.cell?_setCell_other _ _ _ _ sP] at this
   exact this
  have d2f:Wd.frozen? ⟨gO,2,none⟩=false:=by
   have:=yI.lies.frozen 2
   rwa [World.frozen?_setCell] at this
  have FJ:=(yI.setN (x.gt+va)).1
  have k8:=k7.trans (yI.belowN 2 (O U (x.gt+va)))
  go_wp2_with fail
  generalize (Wd.setCell ⟨gT,i * 2+1,none⟩ (O U (tr.c+va))).setCell ⟨gO,2,none⟩ (O U (x.gt+va))=W8 at FJ k8 ⊢
  replace xI:∃ vt vo,aC W8 W2.heap.size gO vt vo r:=⟨_,_,by rw [hr]; exact FJ⟩
  obtain ⟨vt,vo,xI⟩:=xI
  clear hr yI FJ xz c0 ct cf u1 u2 u3 s0 s1 s2 s3 zu zl kt kd k7 k6 k5 d2 d2f
  obtain ⟨A1,a1,A2,a2,rfl,rfl⟩:=xI.form
  have cV:=aZ (r.at A1 a1 A2 a2) gO W8 (aC.at_ (y:=r) xI)
  rw [Oc.good_at] at cV
  cases hg:r.good
  ·rw [hg] at cV
   have HN:Hid (bm x.c ⟨1,st,0,va⟩=none):=by unfold Hid; rw [HR.out,Oc.fin,hg]; rfl
   clear hg
   go_wp2_with fail
   refine cV.mono ?_
   rintro e W9 ⟨rfl,hb9⟩
   have k9:=k8.trans (hb9.mono k8.size)
   clear hb9 cV
   have xx:=L2.below k9 L2.lt
   have z0:=xx.cell 0
   have z1:=xx.cell 1
   have z2:=xx.cell 2
   have z3:=xx.cell 3
   have z4:=xx.cell 4
   obtain ⟨f0,f1,f2,f3,f4⟩:=frz5 xx
   simp only [gz0,gz1] at z0 z1 z2 z3 z4
   have xC:=ab (g:=w.heap.size+1) (i:=4) (u:=O U 0) (gw4 W9 (w.heap.size+1) (F none 0 0) (F none 0 0) (O U 0) (O U 0))
   have bw:=b2.trans (k9.mono b2.size)
   have bz:=bw.grown xC bw.size (by rintro _ ⟨⟩; omega)
   go_wp2
   rw [HN.out]
   refine bodyPost_ret (v:=.tuple #[.agg #[F none 0 0,F none 0 0,O U 0,O U 0,O U 0],.bool false]) (by simp [results,Tryz.results186,go_sem, *]) rfl (aE.no rfl bz)
  ·rw [hg] at cV
   have HN:Hid (bm x.c ⟨1,st,0,va⟩=some r):=by unfold Hid; rw [HR.out,Oc.fin,hg]; rfl
   clear hg
   go_wp2_with fail
   refine cV.mono ?_
   rintro e W9 ⟨rfl,hb9⟩
   have k9:=k8.trans (hb9.mono k8.size)
   have yk:=xI.then hb9
   clear hb9 cV xI
   obtain ⟨c0,c1,c2,c3,c4⟩:=cells5 yk.lies
   have xx:=L2.below k9 L2.lt
   have z0:=xx.cell 0
   have z1:=xx.cell 1
   have z2:=xx.cell 2
   have z3:=xx.cell 3
   have z4:=xx.cell 4
   obtain ⟨f0,f1,f2,f3,f4⟩:=frz5 xx
   simp only [gz0,gz1] at z0 z1 z2 z3 z4
   have xC:=ab (g:=w.heap.size+1) (i:=4) (u:=O U r.ms) (gw4 W9 (w.heap.size+1) (F A1 r.t.length a1) (F A2 r.o.length a2) (O U r.gt) (O U r.sd))
   have bw:=b2.trans (k9.mono b2.size)
   have bz:=bw.grown xC bw.size (by rintro _ ⟨⟩; omega)
   have r8:=ag (ak yk.t xx fB xC) b2.size
   have r9:=ag (ak yk.o xx fj xC) b2.size
   have R8:=jZ r8; clear r8
   have R9:=jZ r9; clear r9
   clear xC yk
   go_wp2
   rw [HN.out]
   refine bodyPost_ret (v:=.tuple #[.agg #[F A1 r.t.length a1,F A2 r.o.length a2,O U r.gt,O U r.sd,O U r.ms],.bool true]) (by simp [results,Tryz.results186,go_sem, *]) rfl ?_
   exact aE.yes rfl R8.out R9.out bz
set_option maxRecDepth 100000 in
theorem uS (x:aN) (g:Nat) (st pe va:Int) (w:World) (h:cu w w.heap.size g x) (G:bK x) (i:Nat) (hi:i < x.t.length) (hI:ay x.t st=i) (yE:1≤pe∧pe≤999) (zR:1≤va∧va≤999) (zJ:aO st pe x.o ≠ 0) :
  Calls xi 186 #[.pointer (some ⟨g,0,none⟩),.agg #[O U 6,O U st,O U pe,O U va]] w (aE w (bm x.c ⟨6,st,pe,va⟩)):=by
 obtain ⟨r,hr⟩ : ∃ r:Oc,r=⟨x.t,eV st va (aO st pe x.o) (eV st pe (-aO st pe x.o) x.o),x.gt,x.sd,x.ms⟩:=⟨_,rfl⟩
 have HR:Hid (bm x.c ⟨6,st,pe,va⟩=Oc.fin r):=by
  unfold Hid bm
  rw [if_neg sP]
  rw [if_neg (by show ¬ ¬ 0≤ay x.t st; rw [hI]; omega)]
  rw [if_neg sP]
  rw [if_neg (by show ¬ (aO st pe x.o=0∧0 < pe); omega)]
  rw [if_neg sP]
  rw [if_neg sP]
  rw [if_neg sP]
  rw [hr]
  rfl
 have BM:=G.at_bd st pe
 have zS:=G.asc
 have DH:=G.oc
 have y8:(0:Int)≤(i:Int):=oM
 obtain ⟨Ez,EA⟩:=yE
 obtain ⟨CL,CM⟩:=zR
 have FL:(eV st pe (-aO st pe x.o) x.o).Sublist x.o:=by
  rw [gS x.o zS (fun h=>absurd h zJ),show aO st pe x.o+-aO st pe x.o=0 by omega]
  exact fu _
 have L1:=(ai.new w 112 #[O U 6,O U st,O U pe,O U va]).alloc (.cells #[F none 0 0,F none 0 0,O U 0,O U 0,O U 0] 40)
 have L2:=ai.new1 w (.cells #[O U 6,O U st,O U pe,O U va] 112) 40 #[F none 0 0,F none 0 0,O U 0,O U 0,O U 0]
 have b1:=bZ w (.cells #[O U 6,O U st,O U pe,O U va] 112)
 have b2:=b1.alloc b1.size (.cells #[F none 0 0,F none 0 0,O U 0,O U 0,O U 0] 40)
 have hA:=h.then b2 b2.size
 have tl:=G.tl
 have ol:=G.ol
 clear b1
 go_enter Tryz.func186,Tryz.ntmps186
 go_wp2_with fail
 generalize ((w.alloc (.cells #[O U 6,O U st,O U pe,O U va] 112)).alloc (.cells #[F none 0 0,F none 0 0,O U 0,O U 0,O U 0] 40))=W2 at L1 L2 b2 hA ⊢
 refine (cp x g W2 hA oM oM).mono ?_
 rintro e W3 ⟨TA,tc,OA,oc,rfl,hT,hO,k3⟩
 obtain ⟨gT,cT,_,Ci,_,_,_⟩:=cg hT oM
 injection Ci with e1 e2 e3
 subst e1; subst e3
 have xo:=(Below.refl W3.heap.size W3).alloc nR (.cells #[F (some ⟨gT,0,none⟩) x.t.length tc,F OA x.o.length oc,O U x.gt,O U x.sd,O U x.ms] 40)
 have xE:aC (W3.alloc (.cells #[F (some ⟨gT,0,none⟩) x.t.length tc,F OA x.o.length oc,O U x.gt,O U x.sd,O U x.ms] 40)) W2.heap.size W3.heap.size _ _ x.c:=⟨ai.new W3 40 #[F (some ⟨gT,0,none⟩) x.t.length tc,F OA x.o.length oc,O U x.gt,O U x.sd,O U x.ms],k3.size,ac hT xo,ac hO xo⟩
 have k4:=k3.trans (xo.mono k3.size)
 obtain ⟨s0,s1⟩:=cells2 (L1.below k4 L1.lt)
 have hgO:w.heap.size+1 < W3.heap.size:=jL L2.lt k3.size
 clear hT hO k3
 go_wp2_with fail
 clear s0 s1 xo
 generalize W3.alloc (.cells #[F (some ⟨gT,0,none⟩) x.t.length tc,F OA x.o.length oc,O U x.gt,O U x.sd,O U x.ms] 40)=W4 at xE k4 ⊢
 generalize W3.heap.size=gO at xE hgO ⊢
 refine (br (x.c.at (some ⟨gT,0,none⟩) tc OA oc) gO st W4 (aC.at_ (y:=x.c) xE)).mono ?_
 rintro e W5 ⟨rfl,hb5⟩
 have xK:=xE.then hb5
 have k5:=k4.trans (hb5.mono k4.size)
 rw [show ay (x.c.at (some ⟨gT,0,none⟩) tc OA oc).t st=ay x.t st from rfl,hI]
 have yR:=L1.below k5 L1.lt
 have zO:=hA.then k5 k5.size
 have De:∀ (fn:Fn) (first cap:Array Value) (w:World),(Instr.makeFunc fn first cap).run xi w=.ok (.func fn first cap) w:=fun _ _ _ _=>rfl
 go_wp2_with fail
 refine (dN (B:=0) yR zO G (Nat.zero_le _)).mono ?_
 rintro e W6 ⟨rfl,xT⟩
 have xz:=xK.then xT
 have k6:=k5.trans (xT.mono k5.size)
 have zu:=L1.below k6 L1.lt
 obtain ⟨s0,s1,s2,s3⟩:=cells4 zu
 clear yR zO xK xE hb5 xT k4
 generalize aO st pe x.o=N at *
 obtain ⟨Cj,Ck⟩:=BM
 have c0:=xz.lies.cell 0
 simp only [List.getElem?_cons_zero] at c0
 have zj:(N == 0)=false:=by simp; omega
 have Ib:o6 (eV st pe (-N) x.o):=zS.sublist FL
 have KF:∀ o ∈ eV st pe (-N) x.o, -1000000000≤o.c∧o.c≤1000000000:=fun o ho=>DH o (FL.subset ho)
 have yZ:=FL.length_le
 go_wp2_with fail
 have cC:=gD W2.heap.size gO _ _ x.c st pe (-N) W6 xz k6.size (by exact zS) (by show x.o.length≤100000; omega) (by exact DH) oM
 refine cC.mono ?_
 rintro e W7 ⟨vo1,rfl,xI,xm⟩
 have k7:=k6.trans xm
 clear xm cC
 have zl:=L1.below k7 L1.lt
 have u1:=zl.cell 1
 have u3:=zl.cell 3
 simp only [gz0,gz1] at u1 u3
 have BJ:aC W7 W2.heap.size gO (F (some ⟨gT,0,none⟩) x.t.length tc) vo1 ⟨x.t,eV st pe (-N) x.o,x.gt,x.sd,x.ms⟩:=xI
 clear xI
 go_wp2_with fail
 have cC:=gD W2.heap.size gO _ _ ⟨x.t,eV st pe (-N) x.o,x.gt,x.sd,x.ms⟩ st va N W7 BJ k7.size (by exact Ib) (by show (eV st pe (-N) x.o).length≤100000; omega) (by exact KF) oM
 refine cC.mono ?_
 rintro e W8 ⟨vo',rfl,xI,xm⟩
 have k8:=k7.trans xm
 clear xm cC
 replace xI:∃ vt,aC W8 W2.heap.size gO vt vo' r:=⟨_,by rw [hr]; exact xI⟩
 obtain ⟨vt,xI⟩:=xI
 clear hr
 clear BJ xz c0 u1 u3 s0 s1 s2 s3 zu zl k7 k6 k5
 obtain ⟨A1,a1,A2,a2,rfl,rfl⟩:=xI.form
 have cV:=aZ (r.at A1 a1 A2 a2) gO W8 (aC.at_ (y:=r) xI)
 rw [Oc.good_at] at cV
 cases hg:r.good
 ·rw [hg] at cV
  have HN:Hid (bm x.c ⟨6,st,pe,va⟩=none):=by unfold Hid; rw [HR.out,Oc.fin,hg]; rfl
  clear hg
  go_wp2_with fail
  refine cV.mono ?_
  rintro e W9 ⟨rfl,hb9⟩
  have k9:=k8.trans (hb9.mono k8.size)
  clear hb9 cV
  have xx:=L2.below k9 L2.lt
  have z0:=xx.cell 0
  have z1:=xx.cell 1
  have z2:=xx.cell 2
  have z3:=xx.cell 3
  have z4:=xx.cell 4
  obtain ⟨f0,f1,f2,f3,f4⟩:=frz5 xx
  simp only [gz0,gz1] at z0 z1 z2 z3 z4
  have xC:=ab (g:=w.heap.size+1) (i:=4) (u:=O U 0) (gw4 W9 (w.heap.size+1) (F none 0 0) (F none 0 0) (O U 0) (O U 0))
  have bw:=b2.trans (k9.mono b2.size)
  have bz:=bw.grown xC bw.size (by rintro _ ⟨⟩; omega)
  go_wp2
  rw [HN.out]
  refine bodyPost_ret (v:=.tuple #[.agg #[F none 0 0,F none 0 0,O U 0,O U 0,O U 0],.bool false]) (by simp [results,Tryz.results186,go_sem, *]) rfl (aE.no rfl bz)
 ·rw [hg] at cV
  have HN:Hid (bm x.c ⟨6,st,pe,va⟩=some r):=by unfold Hid; rw [HR.out,Oc.fin,hg]; rfl
  clear hg
  go_wp2_with fail
  refine cV.mono ?_
  rintro e W9 ⟨rfl,hb9⟩
  have k9:=k8.trans (hb9.mono k8.size)
  have yk:=xI.then hb9
  clear hb9 cV xI
  obtain ⟨c0,c1,c2,c3,c4⟩:=cells5 yk.lies
  have xx:=L2.below k9 L2.lt
  have z0:=xx.cell 0
  have z1:=xx.cell 1
  have z2:=xx.cell 2
  have z3:=xx.cell 3
  have z4:=xx.cell 4
  obtain ⟨f0,f1,f2,f3,f4⟩:=frz5 xx
  simp only [gz0,gz1] at z0 z1 z2 z3 z4
  have xC:=ab (g:=w.heap.size+1) (i:=4) (u:=O U r.ms) (gw4 W9 (w.heap.size+1) (F A1 r.t.length a1) (F A2 r.o.length a2) (O U r.gt) (O U r.sd))
  have bw:=b2.trans (k9.mono b2.size)
  have bz:=bw.grown xC bw.size (by rintro _ ⟨⟩; omega)
  have r8:=ag (ak yk.t xx fB xC) b2.size
  have r9:=ag (ak yk.o xx fj xC) b2.size
  have R8:=jZ r8; clear r8
  have R9:=jZ r9; clear r9
  clear xC yk
  go_wp2
  rw [HN.out]
  refine bodyPost_ret (v:=.tuple #[.agg #[F A1 r.t.length a1,F A2 r.o.length a2,O U r.gt,O U r.sd,O U r.ms],.bool true]) (by simp [results,Tryz.results186,go_sem, *]) rfl ?_
  exact aE.yes rfl R8.out R9.out bz
set_option maxRecDepth 100000 in
theorem td (x:aN) (g:Nat) (st pe va:Int) (w:World) (h:cu w w.heap.size g x) (G:bK x) (i:Nat) (hi:i < x.t.length) (hI:ay x.t st=i) (yE:pe=0) (zR:1≤va∧va≤9999) :
  Calls xi 186 #[.pointer (some ⟨g,0,none⟩),.agg #[O U 4,O U st,O U pe,O U va]] w (aE w (bm x.c ⟨4,st,pe,va⟩)):=by
 subst yE
 obtain ⟨tr,ze⟩ : ∃ tr,x.c.t[i]=tr:=⟨_,rfl⟩
 obtain ⟨r,hr⟩ : ∃ r:Oc,r=⟨x.t.set i ⟨tr.k,tr.c - va⟩,x.o,x.gt,x.sd+va,x.ms⟩:=⟨_,rfl⟩
 have HR:Hid (bm x.c ⟨4,st,0,va⟩=Oc.fin r):=by
  unfold Hid bm
  rw [if_neg sP]
  rw [if_neg (by show ¬ ¬ 0≤ay x.t st; rw [hI]; omega)]
  rw [if_neg sP]
  rw [if_neg (by show ¬ (aO st 0 x.o=0∧(0:Int) < 0); omega)]
  rw [if_neg sP]
  rw [if_pos rfl,if_pos rfl]
  rw [show aj x.c.t st (-va)=x.t.set i ⟨tr.k,tr.c - va⟩ from by show aj x.t st _=_; rw [iA hI hi,show x.t[i]=tr from ze,← Int.sub_eq_add_neg]]
  rw [hr]
  rfl
 have BM:=G.at_bd st 0
 have zS:=G.asc
 have DH:=G.oc
 have y8:(0:Int)≤(i:Int):=oM
 have Bz:=(ar.bounds (G.tall i hi)).2
 rw [show x.t[i]=tr from ze] at Bz
 obtain ⟨AT,CG⟩:=Bz
 obtain ⟨CL,CM⟩:=zR
 have L1:=(ai.new w 112 #[O U 4,O U st,O U 0,O U va]).alloc (.cells #[F none 0 0,F none 0 0,O U 0,O U 0,O U 0] 40)
 have L2:=ai.new1 w (.cells #[O U 4,O U st,O U 0,O U va] 112) 40 #[F none 0 0,F none 0 0,O U 0,O U 0,O U 0]
 have b1:=bZ w (.cells #[O U 4,O U st,O U 0,O U va] 112)
 have b2:=b1.alloc b1.size (.cells #[F none 0 0,F none 0 0,O U 0,O U 0,O U 0] 40)
 have hA:=h.then b2 b2.size
 have tl:=G.tl
 have ol:=G.ol
 clear b1
 go_enter Tryz.func186,Tryz.ntmps186
 go_wp2_with fail
 generalize ((w.alloc (.cells #[O U 4,O U st,O U 0,O U va] 112)).alloc (.cells #[F none 0 0,F none 0 0,O U 0,O U 0,O U 0] 40))=W2 at L1 L2 b2 hA ⊢
 refine (cp x g W2 hA oM oM).mono ?_
 rintro e W3 ⟨TA,tc,OA,oc,rfl,hT,hO,k3⟩
 obtain ⟨gT,cT,_,Ci,_,_,_⟩:=cg hT oM
 injection Ci with e1 e2 e3
 subst e1; subst e3
 have xo:=(Below.refl W3.heap.size W3).alloc nR (.cells #[F (some ⟨gT,0,none⟩) x.t.length tc,F OA x.o.length oc,O U x.gt,O U x.sd,O U x.ms] 40)
 have xE:aC (W3.alloc (.cells #[F (some ⟨gT,0,none⟩) x.t.length tc,F OA x.o.length oc,O U x.gt,O U x.sd,O U x.ms] 40)) W2.heap.size W3.heap.size _ _ x.c:=⟨ai.new W3 40 #[F (some ⟨gT,0,none⟩) x.t.length tc,F OA x.o.length oc,O U x.gt,O U x.sd,O U x.ms],k3.size,ac hT xo,ac hO xo⟩
 have k4:=k3.trans (xo.mono k3.size)
 obtain ⟨s0,s1⟩:=cells2 (L1.below k4 L1.lt)
 have hgO:w.heap.size+1 < W3.heap.size:=jL L2.lt k3.size
 clear hT hO k3
 go_wp2_with fail
 clear s0 s1 xo
 generalize W3.alloc (.cells #[F (some ⟨gT,0,none⟩) x.t.length tc,F OA x.o.length oc,O U x.gt,O U x.sd,O U x.ms] 40)=W4 at xE k4 ⊢
 generalize W3.heap.size=gO at xE hgO ⊢
 refine (br (x.c.at (some ⟨gT,0,none⟩) tc OA oc) gO st W4 (aC.at_ (y:=x.c) xE)).mono ?_
 rintro e W5 ⟨rfl,hb5⟩
 have xK:=xE.then hb5
 have k5:=k4.trans (hb5.mono k4.size)
 rw [show ay (x.c.at (some ⟨gT,0,none⟩) tc OA oc).t st=ay x.t st from rfl,hI]
 have yR:=L1.below k5 L1.lt
 have zO:=hA.then k5 k5.size
 have De:∀ (fn:Fn) (first cap:Array Value) (w:World),(Instr.makeFunc fn first cap).run xi w=.ok (.func fn first cap) w:=fun _ _ _ _=>rfl
 go_wp2_with fail
 refine (dN (B:=0) yR zO G (Nat.zero_le _)).mono ?_
 rintro e W6 ⟨rfl,xT⟩
 have xz:=xK.then xT
 have k6:=k5.trans (xT.mono k5.size)
 have zu:=L1.below k6 L1.lt
 obtain ⟨s0,s1,s2,s3⟩:=cells4 zu
 clear yR zO xK xE hb5 xT k4
 generalize aO st 0 x.o=N at *
 obtain ⟨Cj,Ck⟩:=BM
 have c0:=xz.lies.cell 0
 simp only [List.getElem?_cons_zero] at c0
 have d3:W6.cell? ⟨gO,3,none⟩=some (O U x.sd):=xz.lies.cell 3
 have d4:W6.cell? ⟨gO,4,none⟩=some (O U x.ms):=xz.lies.cell 4
 have d3f:=xz.lies.frozen 3
 have d4f:=xz.lies.frozen 4
 have hneO : ¬ gO=w.heap.size:=oM
 have hneO' : ¬ w.heap.size=gO:=oM
 have Ic:=G.s
 have Id:=G.m
 have yF:=G.g
 obtain ⟨Ie,If⟩:=Ic
 obtain ⟨Ig,Ih⟩:=Id
 obtain ⟨Ex,Ey⟩:=yF
 have KG:=(xz.setN (x.sd+va)).2.1
 have k7:=k6.trans (xz.belowN 3 (O U (x.sd+va)))
 obtain ⟨KH,kt0,ct0,cf0⟩:=aC.setT' (y:=x.c) xz hi tr ze 0
 obtain ⟨v,hv⟩ : ∃ v,(N == 0)=v:=⟨_,rfl⟩
 clear KH kt0 ct0 cf0
 cases v
 all_goals
  go_wp2
  generalize W6.setCell ⟨gO,3,none⟩ (O U (x.sd+va))=W7 at KG k7 ⊢
  obtain ⟨yI,kt,ct,cf⟩:=aC.setT' (y:=⟨x.t,x.o,x.gt,x.sd+va,x.ms⟩) (KG.then jB.drew) hi tr ze (tr.c - va)
  have kd:=k7.drew
  have zl:=L1.below kd L1.lt
  have u1:=zl.cell 1
  have u2:=zl.cell 2
  have u3:=zl.cell 3
  simp only [gz0,gz1] at u1 u2 u3
  go_still_tail 9,kZ
  change wpList _ _ _ _ _ W7.drew
  generalize W7.drew=Wd at yI kt ct cf kd zl u1 u2 u3 ⊢
  have k8:=kd.trans kt
  have hneT : ¬ gT=w.heap.size:=fun e=>by have:=(yI.t.lt gT rfl).1; have:=L1.lt; omega
  have hneT' : ¬ w.heap.size=gT:=fun e=>hneT e.symm
  go_wp2_with fail
  generalize Wd.setCell ⟨gT,i * 2+1,none⟩ (O U (tr.c - va))=W8 at yI k8 ⊢
  replace xI:∃ vt vo,aC W8 W2.heap.size gO vt vo r:=⟨_,_,by rw [hr]; exact yI⟩
  obtain ⟨vt,vo,xI⟩:=xI
  clear hr yI KG xz c0 ct cf u1 u2 u3 s0 s1 s2 s3 zu zl kt kd k7 k6 k5
  obtain ⟨A1,a1,A2,a2,rfl,rfl⟩:=xI.form
  have cV:=aZ (r.at A1 a1 A2 a2) gO W8 (aC.at_ (y:=r) xI)
  rw [Oc.good_at] at cV
  cases hg:r.good
  ·rw [hg] at cV
   have HN:Hid (bm x.c ⟨4,st,0,va⟩=none):=by unfold Hid; rw [HR.out,Oc.fin,hg]; rfl
   clear hg
   go_wp2_with fail
   refine cV.mono ?_
   rintro e W9 ⟨rfl,hb9⟩
   have k9:=k8.trans (hb9.mono k8.size)
   clear hb9 cV
   have xx:=L2.below k9 L2.lt
   have z0:=xx.cell 0
   have z1:=xx.cell 1
   have z2:=xx.cell 2
   have z3:=xx.cell 3
   have z4:=xx.cell 4
   obtain ⟨f0,f1,f2,f3,f4⟩:=frz5 xx
   simp only [gz0,gz1] at z0 z1 z2 z3 z4
   have xC:=ab (g:=w.heap.size+1) (i:=4) (u:=O U 0) (gw4 W9 (w.heap.size+1) (F none 0 0) (F none 0 0) (O U 0) (O U 0))
   have bw:=b2.trans (k9.mono b2.size)
   have bz:=bw.grown xC bw.size (by rintro _ ⟨⟩; omega)
   go_wp2
   rw [HN.out]
   refine bodyPost_ret (v:=.tuple #[.agg #[F none 0 0,F none 0 0,O U 0,O U 0,O U 0],.bool false]) (by simp [results,Tryz.results186,go_sem, *]) rfl (aE.no rfl bz)
  ·rw [hg] at cV
   have HN:Hid (bm x.c ⟨4,st,0,va⟩=some r):=by unfold Hid; rw [HR.out,Oc.fin,hg]; rfl
   clear hg
   go_wp2_with fail
   refine cV.mono ?_
   rintro e W9 ⟨rfl,hb9⟩
   have k9:=k8.trans (hb9.mono k8.size)
   have yk:=xI.then hb9
   clear hb9 cV xI
   obtain ⟨c0,c1,c2,c3,c4⟩:=cells5 yk.lies
   have xx:=L2.below k9 L2.lt
   have z0:=xx.cell 0
   have z1:=xx.cell 1
   have z2:=xx.cell 2
   have z3:=xx.cell 3
   have z4:=xx.cell 4
   obtain ⟨f0,f1,f2,f3,f4⟩:=frz5 xx
   simp only [gz0,gz1] at z0 z1 z2 z3 z4
   have xC:=ab (g:=w.heap.size+1) (i:=4) (u:=O U r.ms) (gw4 W9 (w.heap.size+1) (F A1 r.t.length a1) (F A2 r.o.length a2) (O U r.gt) (O U r.sd))
   have bw:=b2.trans (k9.mono b2.size)
   have bz:=bw.grown xC bw.size (by rintro _ ⟨⟩; omega)
   have r8:=ag (ak yk.t xx fB xC) b2.size
   have r9:=ag (ak yk.o xx fj xC) b2.size
   have R8:=jZ r8; clear r8
   have R9:=jZ r9; clear r9
   clear xC yk
   go_wp2
   rw [HN.out]
   refine bodyPost_ret (v:=.tuple #[.agg #[F A1 r.t.length a1,F A2 r.o.length a2,O U r.gt,O U r.sd,O U r.ms],.bool true]) (by simp [results,Tryz.results186,go_sem, *]) rfl ?_
   exact aE.yes rfl R8.out R9.out bz
set_option maxRecDepth 100000 in
theorem uT (x:aN) (g:Nat) (st pe va:Int) (w:World) (h:cu w w.heap.size g x) (G:bK x) (i:Nat) (hi:i < x.t.length) (hI:ay x.t st=i) (yE:1≤pe∧pe≤999) (zJ:aO st pe x.o ≠ 0) :
  Calls xi 186 #[.pointer (some ⟨g,0,none⟩),.agg #[O U 5,O U st,O U pe,O U va]] w (aE w (bm x.c ⟨5,st,pe,va⟩)):=by
 obtain ⟨r,hr⟩ : ∃ r:Oc,r=⟨x.t,eV st pe (-aO st pe x.o) x.o,x.gt,x.sd,x.ms+aO st pe x.o⟩:=⟨_,rfl⟩
 have HR:Hid (bm x.c ⟨5,st,pe,va⟩=Oc.fin r):=by
  unfold Hid bm
  rw [if_neg sP]
  rw [if_neg (by show ¬ ¬ 0≤ay x.t st; rw [hI]; omega)]
  rw [if_neg sP]
  rw [if_neg (by show ¬ (aO st pe x.o=0∧0 < pe); omega)]
  rw [if_neg sP]
  rw [if_neg sP]
  rw [if_pos rfl]
  rw [hr]
  rfl
 have BM:=G.at_bd st pe
 have zS:=G.asc
 have DH:=G.oc
 have y8:(0:Int)≤(i:Int):=oM
 obtain ⟨Ez,EA⟩:=yE
 have L1:=(ai.new w 112 #[O U 5,O U st,O U pe,O U va]).alloc (.cells #[F none 0 0,F none 0 0,O U 0,O U 0,O U 0] 40)
 have L2:=ai.new1 w (.cells #[O U 5,O U st,O U pe,O U va] 112) 40 #[F none 0 0,F none 0 0,O U 0,O U 0,O U 0]
 have b1:=bZ w (.cells #[O U 5,O U st,O U pe,O U va] 112)
 have b2:=b1.alloc b1.size (.cells #[F none 0 0,F none 0 0,O U 0,O U 0,O U 0] 40)
 have hA:=h.then b2 b2.size
 have tl:=G.tl
 have ol:=G.ol
 clear b1
 go_enter Tryz.func186,Tryz.ntmps186
 go_wp2_with fail
 generalize ((w.alloc (.cells #[O U 5,O U st,O U pe,O U va] 112)).alloc (.cells #[F none 0 0,F none 0 0,O U 0,O U 0,O U 0] 40))=W2 at L1 L2 b2 hA ⊢
 refine (cp x g W2 hA oM oM).mono ?_
 rintro e W3 ⟨TA,tc,OA,oc,rfl,hT,hO,k3⟩
 obtain ⟨gT,cT,_,Ci,_,_,_⟩:=cg hT oM
 injection Ci with e1 e2 e3
 subst e1; subst e3
 have xo:=(Below.refl W3.heap.size W3).alloc nR (.cells #[F (some ⟨gT,0,none⟩) x.t.length tc,F OA x.o.length oc,O U x.gt,O U x.sd,O U x.ms] 40)
 have xE:aC (W3.alloc (.cells #[F (some ⟨gT,0,none⟩) x.t.length tc,F OA x.o.length oc,O U x.gt,O U x.sd,O U x.ms] 40)) W2.heap.size W3.heap.size _ _ x.c:=⟨ai.new W3 40 #[F (some ⟨gT,0,none⟩) x.t.length tc,F OA x.o.length oc,O U x.gt,O U x.sd,O U x.ms],k3.size,ac hT xo,ac hO xo⟩
 have k4:=k3.trans (xo.mono k3.size)
 obtain ⟨s0,s1⟩:=cells2 (L1.below k4 L1.lt)
 have hgO:w.heap.size+1 < W3.heap.size:=jL L2.lt k3.size
 clear hT hO k3
 go_wp2_with fail
 clear s0 s1 xo
 generalize W3.alloc (.cells #[F (some ⟨gT,0,none⟩) x.t.length tc,F OA x.o.length oc,O U x.gt,O U x.sd,O U x.ms] 40)=W4 at xE k4 ⊢
 generalize W3.heap.size=gO at xE hgO ⊢
 refine (br (x.c.at (some ⟨gT,0,none⟩) tc OA oc) gO st W4 (aC.at_ (y:=x.c) xE)).mono ?_
 rintro e W5 ⟨rfl,hb5⟩
 have xK:=xE.then hb5
 have k5:=k4.trans (hb5.mono k4.size)
 rw [show ay (x.c.at (some ⟨gT,0,none⟩) tc OA oc).t st=ay x.t st from rfl,hI]
 have yR:=L1.below k5 L1.lt
 have zO:=hA.then k5 k5.size
 have De:∀ (fn:Fn) (first cap:Array Value) (w:World),(Instr.makeFunc fn first cap).run xi w=.ok (.func fn first cap) w:=fun _ _ _ _=>rfl
 go_wp2_with fail
 refine (dN (B:=0) yR zO G (Nat.zero_le _)).mono ?_
 rintro e W6 ⟨rfl,xT⟩
 have xz:=xK.then xT
 have k6:=k5.trans (xT.mono k5.size)
 have zu:=L1.below k6 L1.lt
 obtain ⟨s0,s1,s2,s3⟩:=cells4 zu
 clear yR zO xK xE hb5 xT k4
 generalize aO st pe x.o=N at *
 obtain ⟨Cj,Ck⟩:=BM
 have c0:=xz.lies.cell 0
 simp only [List.getElem?_cons_zero] at c0
 have zj:(N == 0)=false:=by simp; omega
 have d3:W6.cell? ⟨gO,3,none⟩=some (O U x.sd):=xz.lies.cell 3
 have d4:W6.cell? ⟨gO,4,none⟩=some (O U x.ms):=xz.lies.cell 4
 have d3f:=xz.lies.frozen 3
 have d4f:=xz.lies.frozen 4
 have hneO : ¬ gO=w.heap.size:=oM
 have hneO' : ¬ w.heap.size=gO:=oM
 have Ic:=G.s
 have Id:=G.m
 have yF:=G.g
 obtain ⟨Ie,If⟩:=Ic
 obtain ⟨Ig,Ih⟩:=Id
 obtain ⟨Ex,Ey⟩:=yF
 have yI:=(xz.setN (x.ms+N)).2.2
 have k7:=k6.trans (xz.belowN 4 (O U (x.ms+N)))
 go_wp2_with fail
 generalize W6.setCell ⟨gO,4,none⟩ (O U (x.ms+N))=W7 at yI k7 ⊢
 have cC:=gD W2.heap.size gO _ _ ⟨x.t,x.o,x.gt,x.sd,x.ms+N⟩ st pe (-N) W7 yI k7.size (by exact zS) (by show x.o.length≤100000; omega) (by exact DH) oM
 refine cC.mono ?_
 rintro e W8 ⟨vo',rfl,xI,xm⟩
 have k8:=k7.trans xm
 clear xm cC
 replace xI:∃ vt,aC W8 W2.heap.size gO vt vo' r:=⟨_,by rw [hr]; exact xI⟩
 obtain ⟨vt,xI⟩:=xI
 clear hr
 clear yI xz c0 d3 d4 d3f d4f s0 s1 s2 s3 zu k7 k6 k5
 obtain ⟨A1,a1,A2,a2,rfl,rfl⟩:=xI.form
 have cV:=aZ (r.at A1 a1 A2 a2) gO W8 (aC.at_ (y:=r) xI)
 rw [Oc.good_at] at cV
 cases hg:r.good
 ·rw [hg] at cV
  have HN:Hid (bm x.c ⟨5,st,pe,va⟩=none):=by unfold Hid; rw [HR.out,Oc.fin,hg]; rfl
  clear hg
  go_wp2_with fail
  refine cV.mono ?_
  rintro e W9 ⟨rfl,hb9⟩
  have k9:=k8.trans (hb9.mono k8.size)
  clear hb9 cV
  have xx:=L2.below k9 L2.lt
  have z0:=xx.cell 0
  have z1:=xx.cell 1
  have z2:=xx.cell 2
  have z3:=xx.cell 3
  have z4:=xx.cell 4
  obtain ⟨f0,f1,f2,f3,f4⟩:=frz5 xx
  simp only [gz0,gz1] at z0 z1 z2 z3 z4
  have xC:=ab (g:=w.heap.size+1) (i:=4) (u:=O U 0) (gw4 W9 (w.heap.size+1) (F none 0 0) (F none 0 0) (O U 0) (O U 0))
  have bw:=b2.trans (k9.mono b2.size)
  have bz:=bw.grown xC bw.size (by rintro _ ⟨⟩; omega)
  go_wp2
  rw [HN.out]
  refine bodyPost_ret (v:=.tuple #[.agg #[F none 0 0,F none 0 0,O U 0,O U 0,O U 0],.bool false]) (by simp [results,Tryz.results186,go_sem, *]) rfl (aE.no rfl bz)
 ·rw [hg] at cV
  have HN:Hid (bm x.c ⟨5,st,pe,va⟩=some r):=by unfold Hid; rw [HR.out,Oc.fin,hg]; rfl
  clear hg
  go_wp2_with fail
  refine cV.mono ?_
  rintro e W9 ⟨rfl,hb9⟩
  have k9:=k8.trans (hb9.mono k8.size)
  have yk:=xI.then hb9
  clear hb9 cV xI
  obtain ⟨c0,c1,c2,c3,c4⟩:=cells5 yk.lies
  have xx:=L2.below k9 L2.lt
  have z0:=xx.cell 0
  have z1:=xx.cell 1
  have z2:=xx.cell 2
  have z3:=xx.cell 3
  have z4:=xx.cell 4
  obtain ⟨f0,f1,f2,f3,f4⟩:=frz5 xx
  simp only [gz0,gz1] at z0 z1 z2 z3 z4
  have xC:=ab (g:=w.heap.size+1) (i:=4) (u:=O U r.ms) (gw4 W9 (w.heap.size+1) (F A1 r.t.length a1) (F A2 r.o.length a2) (O U r.gt) (O U r.sd))
  have bw:=b2.trans (k9.mono b2.size)
  have bz:=bw.grown xC bw.size (by rintro _ ⟨⟩; omega)
  have r8:=ag (ak yk.t xx fB xC) b2.size
  have r9:=ag (ak yk.o xx fj xC) b2.size
  have R8:=jZ r8; clear r8
  have R9:=jZ r9; clear r9
  clear xC yk
  go_wp2
  rw [HN.out]
  refine bodyPost_ret (v:=.tuple #[.agg #[F A1 r.t.length a1,F A2 r.o.length a2,O U r.gt,O U r.sd,O U r.ms],.bool true]) (by simp [results,Tryz.results186,go_sem, *]) rfl ?_
  exact aE.yes rfl R8.out R9.out bz
set_option maxRecDepth 100000 in
theorem uU (x:aN) (g:Nat) (st pe va:Int) (w:World) (h:cu w w.heap.size g x) (G:bK x) (i:Nat) (hi:i < x.t.length) (hI:ay x.t st=i) (yE:1≤pe∧pe≤999) (zR:1≤va∧va≤9999) (zJ:aO st pe x.o ≠ 0) :
  Calls xi 186 #[.pointer (some ⟨g,0,none⟩),.agg #[O U 4,O U st,O U pe,O U va]] w (aE w (bm x.c ⟨4,st,pe,va⟩)):=by
 obtain ⟨r,hr⟩ : ∃ r:Oc,r=⟨x.t,eV st pe (-va) x.o,x.gt,x.sd+va,x.ms⟩:=⟨_,rfl⟩
 have HR:Hid (bm x.c ⟨4,st,pe,va⟩=Oc.fin r):=by
  unfold Hid bm
  rw [if_neg sP]
  rw [if_neg (by show ¬ ¬ 0≤ay x.t st; rw [hI]; omega)]
  rw [if_neg sP]
  rw [if_neg (by show ¬ (aO st pe x.o=0∧0 < pe); omega)]
  rw [if_neg sP]
  rw [if_pos rfl,if_neg (by show ¬ pe=0; omega)]
  rw [hr]
  rfl
 have BM:=G.at_bd st pe
 have zS:=G.asc
 have DH:=G.oc
 have y8:(0:Int)≤(i:Int):=oM
 obtain ⟨Ez,EA⟩:=yE
 obtain ⟨CL,CM⟩:=zR
 have Bo:(pe == 0)=false:=by simp; omega
 have L1:=(ai.new w 112 #[O U 4,O U st,O U pe,O U va]).alloc (.cells #[F none 0 0,F none 0 0,O U 0,O U 0,O U 0] 40)
 have L2:=ai.new1 w (.cells #[O U 4,O U st,O U pe,O U va] 112) 40 #[F none 0 0,F none 0 0,O U 0,O U 0,O U 0]
 have b1:=bZ w (.cells #[O U 4,O U st,O U pe,O U va] 112)
 have b2:=b1.alloc b1.size (.cells #[F none 0 0,F none 0 0,O U 0,O U 0,O U 0] 40)
 have hA:=h.then b2 b2.size
 have tl:=G.tl
 have ol:=G.ol
 clear b1
 go_enter Tryz.func186,Tryz.ntmps186
 go_wp2_with fail
 generalize ((w.alloc (.cells #[O U 4,O U st,O U pe,O U va] 112)).alloc (.cells #[F none 0 0,F none 0 0,O U 0,O U 0,O U 0] 40))=W2 at L1 L2 b2 hA ⊢
 refine (cp x g W2 hA oM oM).mono ?_
 rintro e W3 ⟨TA,tc,OA,oc,rfl,hT,hO,k3⟩
 obtain ⟨gT,cT,_,Ci,_,_,_⟩:=cg hT oM
 injection Ci with e1 e2 e3
 subst e1; subst e3
 have xo:=(Below.refl W3.heap.size W3).alloc nR (.cells #[F (some ⟨gT,0,none⟩) x.t.length tc,F OA x.o.length oc,O U x.gt,O U x.sd,O U x.ms] 40)
 have xE:aC (W3.alloc (.cells #[F (some ⟨gT,0,none⟩) x.t.length tc,F OA x.o.length oc,O U x.gt,O U x.sd,O U x.ms] 40)) W2.heap.size W3.heap.size _ _ x.c:=⟨ai.new W3 40 #[F (some ⟨gT,0,none⟩) x.t.length tc,F OA x.o.length oc,O U x.gt,O U x.sd,O U x.ms],k3.size,ac hT xo,ac hO xo⟩
 have k4:=k3.trans (xo.mono k3.size)
 obtain ⟨s0,s1⟩:=cells2 (L1.below k4 L1.lt)
 have hgO:w.heap.size+1 < W3.heap.size:=jL L2.lt k3.size
 clear hT hO k3
 go_wp2_with fail
 clear s0 s1 xo
 generalize W3.alloc (.cells #[F (some ⟨gT,0,none⟩) x.t.length tc,F OA x.o.length oc,O U x.gt,O U x.sd,O U x.ms] 40)=W4 at xE k4 ⊢
 generalize W3.heap.size=gO at xE hgO ⊢
 refine (br (x.c.at (some ⟨gT,0,none⟩) tc OA oc) gO st W4 (aC.at_ (y:=x.c) xE)).mono ?_
 rintro e W5 ⟨rfl,hb5⟩
 have xK:=xE.then hb5
 have k5:=k4.trans (hb5.mono k4.size)
 rw [show ay (x.c.at (some ⟨gT,0,none⟩) tc OA oc).t st=ay x.t st from rfl,hI]
 have yR:=L1.below k5 L1.lt
 have zO:=hA.then k5 k5.size
 have De:∀ (fn:Fn) (first cap:Array Value) (w:World),(Instr.makeFunc fn first cap).run xi w=.ok (.func fn first cap) w:=fun _ _ _ _=>rfl
 go_wp2_with fail
 refine (dN (B:=0) yR zO G (Nat.zero_le _)).mono ?_
 rintro e W6 ⟨rfl,xT⟩
 have xz:=xK.then xT
 have k6:=k5.trans (xT.mono k5.size)
 have zu:=L1.below k6 L1.lt
 obtain ⟨s0,s1,s2,s3⟩:=cells4 zu
 clear yR zO xK xE hb5 xT k4
 generalize aO st pe x.o=N at *
 obtain ⟨Cj,Ck⟩:=BM
 have c0:=xz.lies.cell 0
 simp only [List.getElem?_cons_zero] at c0
 have zj:(N == 0)=false:=by simp; omega
 have d3:W6.cell? ⟨gO,3,none⟩=some (O U x.sd):=xz.lies.cell 3
 have d4:W6.cell? ⟨gO,4,none⟩=some (O U x.ms):=xz.lies.cell 4
 have d3f:=xz.lies.frozen 3
 have d4f:=xz.lies.frozen 4
 have hneO : ¬ gO=w.heap.size:=oM
 have hneO' : ¬ w.heap.size=gO:=oM
 have Ic:=G.s
 have Id:=G.m
 have yF:=G.g
 obtain ⟨Ie,If⟩:=Ic
 obtain ⟨Ig,Ih⟩:=Id
 obtain ⟨Ex,Ey⟩:=yF
 have yI:=(xz.setN (x.sd+va)).2.1
 have k7:=k6.trans (xz.belowN 3 (O U (x.sd+va)))
 go_wp2_with fail
 generalize W6.setCell ⟨gO,3,none⟩ (O U (x.sd+va))=W7 at yI k7 ⊢
 have cC:=gD W2.heap.size gO _ _ ⟨x.t,x.o,x.gt,x.sd+va,x.ms⟩ st pe (-va) W7 yI k7.size (by exact zS) (by show x.o.length≤100000; omega) (by exact DH) oM
 refine cC.mono ?_
 rintro e W8 ⟨vo',rfl,xI,xm⟩
 have k8:=k7.trans xm
 clear xm cC
 replace xI:∃ vt,aC W8 W2.heap.size gO vt vo' r:=⟨_,by rw [hr]; exact xI⟩
 obtain ⟨vt,xI⟩:=xI
 clear hr
 clear yI xz c0 d3 d4 d3f d4f s0 s1 s2 s3 zu k7 k6 k5
 obtain ⟨A1,a1,A2,a2,rfl,rfl⟩:=xI.form
 have cV:=aZ (r.at A1 a1 A2 a2) gO W8 (aC.at_ (y:=r) xI)
 rw [Oc.good_at] at cV
 cases hg:r.good
 ·rw [hg] at cV
  have HN:Hid (bm x.c ⟨4,st,pe,va⟩=none):=by unfold Hid; rw [HR.out,Oc.fin,hg]; rfl
  clear hg
  go_wp2_with fail
  refine cV.mono ?_
  rintro e W9 ⟨rfl,hb9⟩
  have k9:=k8.trans (hb9.mono k8.size)
  clear hb9 cV
  have xx:=L2.below k9 L2.lt
  have z0:=xx.cell 0
  have z1:=xx.cell 1
  have z2:=xx.cell 2
  have z3:=xx.cell 3
  have z4:=xx.cell 4
  obtain ⟨f0,f1,f2,f3,f4⟩:=frz5 xx
  simp only [gz0,gz1] at z0 z1 z2 z3 z4
  have xC:=ab (g:=w.heap.size+1) (i:=4) (u:=O U 0) (gw4 W9 (w.heap.size+1) (F none 0 0) (F none 0 0) (O U 0) (O U 0))
  have bw:=b2.trans (k9.mono b2.size)
  have bz:=bw.grown xC bw.size (by rintro _ ⟨⟩; omega)
  go_wp2
  rw [HN.out]
  refine bodyPost_ret (v:=.tuple #[.agg #[F none 0 0,F none 0 0,O U 0,O U 0,O U 0],.bool false]) (by simp [results,Tryz.results186,go_sem, *]) rfl (aE.no rfl bz)
 ·rw [hg] at cV
  have HN:Hid (bm x.c ⟨4,st,pe,va⟩=some r):=by unfold Hid; rw [HR.out,Oc.fin,hg]; rfl
  clear hg
  go_wp2_with fail
  refine cV.mono ?_
  rintro e W9 ⟨rfl,hb9⟩
  have k9:=k8.trans (hb9.mono k8.size)
  have yk:=xI.then hb9
  clear hb9 cV xI
  obtain ⟨c0,c1,c2,c3,c4⟩:=cells5 yk.lies
  have xx:=L2.below k9 L2.lt
  have z0:=xx.cell 0
  have z1:=xx.cell 1
  have z2:=xx.cell 2
  have z3:=xx.cell 3
  have z4:=xx.cell 4
  obtain ⟨f0,f1,f2,f3,f4⟩:=frz5 xx
  simp only [gz0,gz1] at z0 z1 z2 z3 z4
  have xC:=ab (g:=w.heap.size+1) (i:=4) (u:=O U r.ms) (gw4 W9 (w.heap.size+1) (F A1 r.t.length a1) (F A2 r.o.length a2) (O U r.gt) (O U r.sd))
  have bw:=b2.trans (k9.mono b2.size)
  have bz:=bw.grown xC bw.size (by rintro _ ⟨⟩; omega)
  have r8:=ag (ak yk.t xx fB xC) b2.size
  have r9:=ag (ak yk.o xx fj xC) b2.size
  have R8:=jZ r8; clear r8
  have R9:=jZ r9; clear r9
  clear xC yk
  go_wp2
  rw [HN.out]
  refine bodyPost_ret (v:=.tuple #[.agg #[F A1 r.t.length a1,F A2 r.o.length a2,O U r.gt,O U r.sd,O U r.ms],.bool true]) (by simp [results,Tryz.results186,go_sem, *]) rfl ?_
  exact aE.yes rfl R8.out R9.out bz
set_option maxRecDepth 100000 in
theorem uV (x:aN) (g:Nat) (st pe va:Int) (w:World) (h:cu w w.heap.size g x) (G:bK x) (i:Nat) (hi:i < x.t.length) (hI:ay x.t st=i) (yE:1≤pe∧pe≤999) (zR:1≤va∧va≤9999) (zJ:aO st pe x.o ≠ 0) :
  Calls xi 186 #[.pointer (some ⟨g,0,none⟩),.agg #[O U 3,O U st,O U pe,O U va]] w (aE w (bm x.c ⟨3,st,pe,va⟩)):=by
 obtain ⟨tr,ze⟩ : ∃ tr,x.c.t[i]=tr:=⟨_,rfl⟩
 obtain ⟨r,hr⟩ : ∃ r:Oc,r=⟨x.t.set i ⟨tr.k,tr.c+va⟩,eV st pe (-va) x.o,x.gt,x.sd,x.ms⟩:=⟨_,rfl⟩
 have HR:Hid (bm x.c ⟨3,st,pe,va⟩=Oc.fin r):=by
  unfold Hid bm
  rw [if_neg sP]
  rw [if_neg (by show ¬ ¬ 0≤ay x.t st; rw [hI]; omega)]
  rw [if_neg sP]
  rw [if_neg (by show ¬ (aO st pe x.o=0∧0 < pe); omega)]
  rw [if_pos rfl]
  rw [show aj x.c.t st (va)=x.t.set i ⟨tr.k,tr.c+va⟩ from by show aj x.t st _=_; rw [iA hI hi,show x.t[i]=tr from ze]]
  rw [hr]
  rfl
 have BM:=G.at_bd st pe
 have zS:=G.asc
 have DH:=G.oc
 have y8:(0:Int)≤(i:Int):=oM
 have Bz:=(ar.bounds (G.tall i hi)).2
 rw [show x.t[i]=tr from ze] at Bz
 obtain ⟨AT,CG⟩:=Bz
 obtain ⟨Ez,EA⟩:=yE
 obtain ⟨CL,CM⟩:=zR
 have L1:=(ai.new w 112 #[O U 3,O U st,O U pe,O U va]).alloc (.cells #[F none 0 0,F none 0 0,O U 0,O U 0,O U 0] 40)
 have L2:=ai.new1 w (.cells #[O U 3,O U st,O U pe,O U va] 112) 40 #[F none 0 0,F none 0 0,O U 0,O U 0,O U 0]
 have b1:=bZ w (.cells #[O U 3,O U st,O U pe,O U va] 112)
 have b2:=b1.alloc b1.size (.cells #[F none 0 0,F none 0 0,O U 0,O U 0,O U 0] 40)
 have hA:=h.then b2 b2.size
 have tl:=G.tl
 have ol:=G.ol
 clear b1
 go_enter Tryz.func186,Tryz.ntmps186
 go_wp2_with fail
 generalize ((w.alloc (.cells #[O U 3,O U st,O U pe,O U va] 112)).alloc (.cells #[F none 0 0,F none 0 0,O U 0,O U 0,O U 0] 40))=W2 at L1 L2 b2 hA ⊢
 refine (cp x g W2 hA oM oM).mono ?_
 rintro e W3 ⟨TA,tc,OA,oc,rfl,hT,hO,k3⟩
 obtain ⟨gT,cT,_,Ci,_,_,_⟩:=cg hT oM
 injection Ci with e1 e2 e3
 subst e1; subst e3
 have xo:=(Below.refl W3.heap.size W3).alloc nR (.cells #[F (some ⟨gT,0,none⟩) x.t.length tc,F OA x.o.length oc,O U x.gt,O U x.sd,O U x.ms] 40)
 have xE:aC (W3.alloc (.cells #[F (some ⟨gT,0,none⟩) x.t.length tc,F OA x.o.length oc,O U x.gt,O U x.sd,O U x.ms] 40)) W2.heap.size W3.heap.size _ _ x.c:=⟨ai.new W3 40 #[F (some ⟨gT,0,none⟩) x.t.length tc,F OA x.o.length oc,O U x.gt,O U x.sd,O U x.ms],k3.size,ac hT xo,ac hO xo⟩
 have k4:=k3.trans (xo.mono k3.size)
 obtain ⟨s0,s1⟩:=cells2 (L1.below k4 L1.lt)
 have hgO:w.heap.size+1 < W3.heap.size:=jL L2.lt k3.size
 clear hT hO k3
 go_wp2_with fail
 clear s0 s1 xo
 generalize W3.alloc (.cells #[F (some ⟨gT,0,none⟩) x.t.length tc,F OA x.o.length oc,O U x.gt,O U x.sd,O U x.ms] 40)=W4 at xE k4 ⊢
 generalize W3.heap.size=gO at xE hgO ⊢
 refine (br (x.c.at (some ⟨gT,0,none⟩) tc OA oc) gO st W4 (aC.at_ (y:=x.c) xE)).mono ?_
 rintro e W5 ⟨rfl,hb5⟩
 have xK:=xE.then hb5
 have k5:=k4.trans (hb5.mono k4.size)
 rw [show ay (x.c.at (some ⟨gT,0,none⟩) tc OA oc).t st=ay x.t st from rfl,hI]
 have yR:=L1.below k5 L1.lt
 have zO:=hA.then k5 k5.size
 have De:∀ (fn:Fn) (first cap:Array Value) (w:World),(Instr.makeFunc fn first cap).run xi w=.ok (.func fn first cap) w:=fun _ _ _ _=>rfl
 go_wp2_with fail
 refine (dN (B:=0) yR zO G (Nat.zero_le _)).mono ?_
 rintro e W6 ⟨rfl,xT⟩
 have xz:=xK.then xT
 have k6:=k5.trans (xT.mono k5.size)
 have zu:=L1.below k6 L1.lt
 obtain ⟨s0,s1,s2,s3⟩:=cells4 zu
 clear yR zO xK xE hb5 xT k4
 generalize aO st pe x.o=N at *
 obtain ⟨Cj,Ck⟩:=BM
 have c0:=xz.lies.cell 0
 simp only [List.getElem?_cons_zero] at c0
 have zj:(N == 0)=false:=by simp; omega
 go_wp2
 obtain ⟨yI,kt,ct,cf⟩:=aC.setT' (y:=x.c) (xz.then jB.drew) hi tr ze (tr.c+va)
 have kd:=k6.drew
 have zl:=L1.below kd L1.lt
 have u1:=zl.cell 1
 have u2:=zl.cell 2
 have u3:=zl.cell 3
 simp only [gz0,gz1] at u1 u2 u3
 go_still_tail 9,kZ
 change wpList _ _ _ _ _ W6.drew
 generalize W6.drew=Wd at yI kt ct cf kd zl u1 u2 u3 ⊢
 have k7:=kd.trans kt
 have hneT : ¬ gT=w.heap.size:=fun e=>by have:=(yI.t.lt gT rfl).1; have:=L1.lt; omega
 have hneT' : ¬ w.heap.size=gT:=fun e=>hneT e.symm
 go_wp2_with fail
 generalize Wd.setCell ⟨gT,i * 2+1,none⟩ (O U (tr.c+va))=W7 at yI k7 ⊢
 have cC:=gD W2.heap.size gO _ _ ⟨x.t.set i ⟨tr.k,tr.c+va⟩,x.o,x.gt,x.sd,x.ms⟩ st pe (-va) W7 yI k7.size (by exact zS) (by show x.o.length≤100000; omega) (by exact DH) oM
 refine cC.mono ?_
 rintro e W8 ⟨vo',rfl,xI,xm⟩
 have k8:=k7.trans xm
 clear xm cC
 replace xI:∃ vt,aC W8 W2.heap.size gO vt vo' r:=⟨_,by rw [hr]; exact xI⟩
 obtain ⟨vt,xI⟩:=xI
 clear hr
 clear yI xz c0 ct cf u1 u2 u3 s0 s1 s2 s3 zu zl kt kd k7 k6 k5
 obtain ⟨A1,a1,A2,a2,rfl,rfl⟩:=xI.form
 have cV:=aZ (r.at A1 a1 A2 a2) gO W8 (aC.at_ (y:=r) xI)
 rw [Oc.good_at] at cV
 cases hg:r.good
 ·rw [hg] at cV
  have HN:Hid (bm x.c ⟨3,st,pe,va⟩=none):=by unfold Hid; rw [HR.out,Oc.fin,hg]; rfl
  clear hg
  go_wp2_with fail
  refine cV.mono ?_
  rintro e W9 ⟨rfl,hb9⟩
  have k9:=k8.trans (hb9.mono k8.size)
  clear hb9 cV
  have xx:=L2.below k9 L2.lt
  have z0:=xx.cell 0
  have z1:=xx.cell 1
  have z2:=xx.cell 2
  have z3:=xx.cell 3
  have z4:=xx.cell 4
  obtain ⟨f0,f1,f2,f3,f4⟩:=frz5 xx
  simp only [gz0,gz1] at z0 z1 z2 z3 z4
  have xC:=ab (g:=w.heap.size+1) (i:=4) (u:=O U 0) (gw4 W9 (w.heap.size+1) (F none 0 0) (F none 0 0) (O U 0) (O U 0))
  have bw:=b2.trans (k9.mono b2.size)
  have bz:=bw.grown xC bw.size (by rintro _ ⟨⟩; omega)
  go_wp2
  rw [HN.out]
  refine bodyPost_ret (v:=.tuple #[.agg #[F none 0 0,F none 0 0,O U 0,O U 0,O U 0],.bool false]) (by simp [results,Tryz.results186,go_sem, *]) rfl (aE.no rfl bz)
 ·rw [hg] at cV
  have HN:Hid (bm x.c ⟨3,st,pe,va⟩=some r):=by unfold Hid; rw [HR.out,Oc.fin,hg]; rfl
  clear hg
  go_wp2_with fail
  refine cV.mono ?_
  rintro e W9 ⟨rfl,hb9⟩
  have k9:=k8.trans (hb9.mono k8.size)
  have yk:=xI.then hb9
  clear hb9 cV xI
  obtain ⟨c0,c1,c2,c3,c4⟩:=cells5 yk.lies
  have xx:=L2.below k9 L2.lt
  have z0:=xx.cell 0
  have z1:=xx.cell 1
  have z2:=xx.cell 2
  have z3:=xx.cell 3
  have z4:=xx.cell 4
  obtain ⟨f0,f1,f2,f3,f4⟩:=frz5 xx
  simp only [gz0,gz1] at z0 z1 z2 z3 z4
  have xC:=ab (g:=w.heap.size+1) (i:=4) (u:=O U r.ms) (gw4 W9 (w.heap.size+1) (F A1 r.t.length a1) (F A2 r.o.length a2) (O U r.gt) (O U r.sd))
  have bw:=b2.trans (k9.mono b2.size)
  have bz:=bw.grown xC bw.size (by rintro _ ⟨⟩; omega)
  have r8:=ag (ak yk.t xx fB xC) b2.size
  have r9:=ag (ak yk.o xx fj xC) b2.size
  have R8:=jZ r8; clear r8
  have R9:=jZ r9; clear r9
  clear xC yk
  go_wp2
  rw [HN.out]
  refine bodyPost_ret (v:=.tuple #[.agg #[F A1 r.t.length a1,F A2 r.o.length a2,O U r.gt,O U r.sd,O U r.ms],.bool true]) (by simp [results,Tryz.results186,go_sem, *]) rfl ?_
  exact aE.yes rfl R8.out R9.out bz
set_option maxRecDepth 100000 in
theorem uW (x:aN) (g:Nat) (st pe va:Int) (w:World) (h:cu w w.heap.size g x) (G:bK x) (i:Nat) (hi:i < x.t.length) (hI:ay x.t st=i) (yE:1≤pe∧pe≤999) (zR:1≤va∧va≤9999) :
  Calls xi 186 #[.pointer (some ⟨g,0,none⟩),.agg #[O U 2,O U st,O U pe,O U va]] w (aE w (bm x.c ⟨2,st,pe,va⟩)):=by
 obtain ⟨tr,ze⟩ : ∃ tr,x.c.t[i]=tr:=⟨_,rfl⟩
 obtain ⟨r,hr⟩ : ∃ r:Oc,r=⟨x.t.set i ⟨tr.k,tr.c - va⟩,eV st pe va x.o,x.gt,x.sd,x.ms⟩:=⟨_,rfl⟩
 have HR:Hid (bm x.c ⟨2,st,pe,va⟩=Oc.fin r):=by
  unfold Hid bm
  rw [if_neg sP,if_neg (by show ¬ ¬ 0≤ay x.t st; rw [hI]; omega),if_pos rfl,hr]
  show Oc.fin { x.c with t:=aj x.t st (-va),o:=eV st pe va x.o }=_
  rw [iA hI hi,show x.t[i]=tr from ze,← Int.sub_eq_add_neg]
  rfl
 have BM:=G.at_bd st pe
 have zS:=G.asc
 have DH:=G.oc
 have Bz:=(ar.bounds (G.tall i hi)).2
 rw [show x.t[i]=tr from ze] at Bz
 obtain ⟨Ez,EA⟩:=yE
 obtain ⟨CL,CM⟩:=zR
 obtain ⟨AT,CG⟩:=Bz
 have y8:(0:Int)≤(i:Int):=oM
 have L1:=(ai.new w 112 #[O U 2,O U st,O U pe,O U va]).alloc (.cells #[F none 0 0,F none 0 0,O U 0,O U 0,O U 0] 40)
 have L2:=ai.new1 w (.cells #[O U 2,O U st,O U pe,O U va] 112) 40 #[F none 0 0,F none 0 0,O U 0,O U 0,O U 0]
 have b1:=bZ w (.cells #[O U 2,O U st,O U pe,O U va] 112)
 have b2:=b1.alloc b1.size (.cells #[F none 0 0,F none 0 0,O U 0,O U 0,O U 0] 40)
 have hA:=h.then b2 b2.size
 have tl:=G.tl
 have ol:=G.ol
 clear b1
 go_enter Tryz.func186,Tryz.ntmps186
 go_wp2_with fail
 generalize ((w.alloc (.cells #[O U 2,O U st,O U pe,O U va] 112)).alloc (.cells #[F none 0 0,F none 0 0,O U 0,O U 0,O U 0] 40))=W2 at L1 L2 b2 hA ⊢
 refine (cp x g W2 hA oM oM).mono ?_
 rintro e W3 ⟨TA,tc,OA,oc,rfl,hT,hO,k3⟩
 obtain ⟨gT,cT,_,Ci,_,_,_⟩:=cg hT oM
 injection Ci with e1 e2 e3
 subst e1; subst e3
 have xo:=(Below.refl W3.heap.size W3).alloc nR (.cells #[F (some ⟨gT,0,none⟩) x.t.length tc,F OA x.o.length oc,O U x.gt,O U x.sd,O U x.ms] 40)
 have xE:aC (W3.alloc (.cells #[F (some ⟨gT,0,none⟩) x.t.length tc,F OA x.o.length oc,O U x.gt,O U x.sd,O U x.ms] 40)) W2.heap.size W3.heap.size _ _ x.c:=⟨ai.new W3 40 #[F (some ⟨gT,0,none⟩) x.t.length tc,F OA x.o.length oc,O U x.gt,O U x.sd,O U x.ms],k3.size,ac hT xo,ac hO xo⟩
 have k4:=k3.trans (xo.mono k3.size)
 obtain ⟨s0,s1⟩:=cells2 (L1.below k4 L1.lt)
 have hgO:w.heap.size+1 < W3.heap.size:=jL L2.lt k3.size
 clear hT hO k3
 go_wp2_with fail
 clear s0 s1 xo
 generalize W3.alloc (.cells #[F (some ⟨gT,0,none⟩) x.t.length tc,F OA x.o.length oc,O U x.gt,O U x.sd,O U x.ms] 40)=W4 at xE k4 ⊢
 generalize W3.heap.size=gO at xE hgO ⊢
 refine (br (x.c.at (some ⟨gT,0,none⟩) tc OA oc) gO st W4 (aC.at_ (y:=x.c) xE)).mono ?_
 rintro e W5 ⟨rfl,hb5⟩
 have xK:=xE.then hb5
 have k5:=k4.trans (hb5.mono k4.size)
 rw [show ay (x.c.at (some ⟨gT,0,none⟩) tc OA oc).t st=ay x.t st from rfl,hI]
 have yR:=L1.below k5 L1.lt
 have zO:=hA.then k5 k5.size
 have De:∀ (fn:Fn) (first cap:Array Value) (w:World),(Instr.makeFunc fn first cap).run xi w=.ok (.func fn first cap) w:=fun _ _ _ _=>rfl
 go_wp2_with fail
 refine (dN (B:=0) yR zO G (Nat.zero_le _)).mono ?_
 rintro e W6 ⟨rfl,xT⟩
 have xz:=xK.then xT
 have k6:=k5.trans (xT.mono k5.size)
 have zu:=L1.below k6 L1.lt
 obtain ⟨s0,s1,s2,s3⟩:=cells4 zu
 clear yR zO xK xE hb5 xT k4
 generalize aO st pe x.o=N at BM ⊢
 obtain ⟨Cj,Ck⟩:=BM
 have c0:=xz.lies.cell 0
 simp only [gz0] at c0
 obtain ⟨v,hv⟩ : ∃ v,(N == 0)=v:=⟨_,rfl⟩
 cases v
 all_goals
  go_wp2
  obtain ⟨yI,kt,ct,cf⟩:=aC.setT' (y:=x.c) (xz.then jB.drew) hi tr ze (tr.c - va)
  have kd:=k6.drew
  have zl:=L1.below kd L1.lt
  have u1:=zl.cell 1
  have u2:=zl.cell 2
  have u3:=zl.cell 3
  simp only [gz0,gz1] at u1 u2 u3
  go_still_tail 9,kZ
  change wpList _ _ _ _ _ W6.drew
  generalize W6.drew=Wd at yI kt ct cf kd zl u1 u2 u3 ⊢
  have k7:=kd.trans kt
  have hneT : ¬ gT=w.heap.size:=fun e=>by have:=(yI.t.lt gT rfl).1; have:=L1.lt; omega
  have hneT' : ¬ w.heap.size=gT:=fun e=>hneT e.symm
  go_wp2_with fail
  generalize Wd.setCell ⟨gT,i * 2+1,none⟩ (O U (tr.c - va))=W7 at yI k7 ⊢
  have cC:=gD W2.heap.size gO _ _ ⟨x.t.set i ⟨tr.k,tr.c - va⟩,x.o,x.gt,x.sd,x.ms⟩ st pe (va) W7 yI k7.size (by exact zS) (by show x.o.length≤100000; omega) (by exact DH) oM
  refine cC.mono ?_
  rintro e W8 ⟨vo',rfl,xI,xm⟩
  have k8:=k7.trans xm
  clear xm cC
  replace xI:∃ vt,aC W8 W2.heap.size gO vt vo' r:=⟨_,by rw [hr]; exact xI⟩
  obtain ⟨vt,xI⟩:=xI
  clear hr
  clear yI xz c0 ct cf u1 u2 u3 s0 s1 s2 s3 zu zl kt kd k7 k6 k5
  obtain ⟨A1,a1,A2,a2,rfl,rfl⟩:=xI.form
  have cV:=aZ (r.at A1 a1 A2 a2) gO W8 (aC.at_ (y:=r) xI)
  rw [Oc.good_at] at cV
  cases hg:r.good
  ·rw [hg] at cV
   have HN:Hid (bm x.c ⟨2,st,pe,va⟩=none):=by unfold Hid; rw [HR.out,Oc.fin,hg]; rfl
   clear hg
   go_wp2_with fail
   refine cV.mono ?_
   rintro e W9 ⟨rfl,hb9⟩
   have k9:=k8.trans (hb9.mono k8.size)
   clear hb9 cV
   have xx:=L2.below k9 L2.lt
   have z0:=xx.cell 0
   have z1:=xx.cell 1
   have z2:=xx.cell 2
   have z3:=xx.cell 3
   have z4:=xx.cell 4
   obtain ⟨f0,f1,f2,f3,f4⟩:=frz5 xx
   simp only [gz0,gz1] at z0 z1 z2 z3 z4
   have xC:=ab (g:=w.heap.size+1) (i:=4) (u:=O U 0) (gw4 W9 (w.heap.size+1) (F none 0 0) (F none 0 0) (O U 0) (O U 0))
   have bw:=b2.trans (k9.mono b2.size)
   have bz:=bw.grown xC bw.size (by rintro _ ⟨⟩; omega)
   go_wp2
   rw [HN.out]
   refine bodyPost_ret (v:=.tuple #[.agg #[F none 0 0,F none 0 0,O U 0,O U 0,O U 0],.bool false]) (by simp [results,Tryz.results186,go_sem, *]) rfl (aE.no rfl bz)
  ·rw [hg] at cV
   have HN:Hid (bm x.c ⟨2,st,pe,va⟩=some r):=by unfold Hid; rw [HR.out,Oc.fin,hg]; rfl
   clear hg
   go_wp2_with fail
   refine cV.mono ?_
   rintro e W9 ⟨rfl,hb9⟩
   have k9:=k8.trans (hb9.mono k8.size)
   have yk:=xI.then hb9
   clear hb9 cV xI
   obtain ⟨c0,c1,c2,c3,c4⟩:=cells5 yk.lies
   have xx:=L2.below k9 L2.lt
   have z0:=xx.cell 0
   have z1:=xx.cell 1
   have z2:=xx.cell 2
   have z3:=xx.cell 3
   have z4:=xx.cell 4
   obtain ⟨f0,f1,f2,f3,f4⟩:=frz5 xx
   simp only [gz0,gz1] at z0 z1 z2 z3 z4
   have xC:=ab (g:=w.heap.size+1) (i:=4) (u:=O U r.ms) (gw4 W9 (w.heap.size+1) (F A1 r.t.length a1) (F A2 r.o.length a2) (O U r.gt) (O U r.sd))
   have bw:=b2.trans (k9.mono b2.size)
   have bz:=bw.grown xC bw.size (by rintro _ ⟨⟩; omega)
   have r8:=ag (ak yk.t xx fB xC) b2.size
   have r9:=ag (ak yk.o xx fj xC) b2.size
   have R8:=jZ r8; clear r8
   have R9:=jZ r9; clear r9
   clear xC yk
   go_wp2
   rw [HN.out]
   refine bodyPost_ret (v:=.tuple #[.agg #[F A1 r.t.length a1,F A2 r.o.length a2,O U r.gt,O U r.sd,O U r.ms],.bool true]) (by simp [results,Tryz.results186,go_sem, *]) rfl ?_
   exact aE.yes rfl R8.out R9.out bz
set_option maxRecDepth 100000 in
theorem l8 (x:aN) (g:Nat) (kd:Int) (st pe va:Int) (w:World) (h:cu w w.heap.size g x) (G:bK x) (hk:(kd == 1)=false) (IW:(kd != 2)=true) (i:Nat) (hi:i < x.t.length) (hI:ay x.t st=i) (yE:0 < pe) (h0:aO st pe x.o=0) :
  Calls xi 186 #[.pointer (some ⟨g,0,none⟩),.agg #[O U kd,O U st,O U pe,O U va]] w (aE w (bm x.c ⟨kd,st,pe,va⟩)):=by
 have HN:Hid (bm x.c ⟨kd,st,pe,va⟩=none):=by
  unfold Hid bm
  rw [if_neg (by simpa using hk),if_neg (by show ¬ ¬ 0≤ay x.t st; rw [hI]; omega),if_neg (by simpa using IW),if_pos ⟨h0,yE⟩]
 have y8:(0:Int)≤(i:Int):=oM
 have L1:=(ai.new w 112 #[O U kd,O U st,O U pe,O U va]).alloc (.cells #[F none 0 0,F none 0 0,O U 0,O U 0,O U 0] 40)
 have L2:=ai.new1 w (.cells #[O U kd,O U st,O U pe,O U va] 112) 40 #[F none 0 0,F none 0 0,O U 0,O U 0,O U 0]
 have b1:=bZ w (.cells #[O U kd,O U st,O U pe,O U va] 112)
 have b2:=b1.alloc b1.size (.cells #[F none 0 0,F none 0 0,O U 0,O U 0,O U 0] 40)
 have hA:=h.then b2 b2.size
 have tl:=G.tl
 have ol:=G.ol
 clear b1
 go_enter Tryz.func186,Tryz.ntmps186
 go_wp2_with fail
 generalize ((w.alloc (.cells #[O U kd,O U st,O U pe,O U va] 112)).alloc (.cells #[F none 0 0,F none 0 0,O U 0,O U 0,O U 0] 40))=W2 at L1 L2 b2 hA ⊢
 refine (cp x g W2 hA oM oM).mono ?_
 rintro e W3 ⟨TA,tc,OA,oc,rfl,hT,hO,k3⟩
 obtain ⟨gT,cT,_,Ci,_,_,_⟩:=cg hT oM
 injection Ci with e1 e2 e3
 subst e1; subst e3
 have xo:=(Below.refl W3.heap.size W3).alloc nR (.cells #[F (some ⟨gT,0,none⟩) x.t.length tc,F OA x.o.length oc,O U x.gt,O U x.sd,O U x.ms] 40)
 have xE:aC (W3.alloc (.cells #[F (some ⟨gT,0,none⟩) x.t.length tc,F OA x.o.length oc,O U x.gt,O U x.sd,O U x.ms] 40)) W2.heap.size W3.heap.size _ _ x.c:=⟨ai.new W3 40 #[F (some ⟨gT,0,none⟩) x.t.length tc,F OA x.o.length oc,O U x.gt,O U x.sd,O U x.ms],k3.size,ac hT xo,ac hO xo⟩
 have k4:=k3.trans (xo.mono k3.size)
 obtain ⟨s0,s1⟩:=cells2 (L1.below k4 L1.lt)
 have hgO:w.heap.size+1 < W3.heap.size:=jL L2.lt k3.size
 clear hT hO k3
 go_wp2_with fail
 clear s0 s1 xo
 generalize W3.alloc (.cells #[F (some ⟨gT,0,none⟩) x.t.length tc,F OA x.o.length oc,O U x.gt,O U x.sd,O U x.ms] 40)=W4 at xE k4 ⊢
 generalize W3.heap.size=gO at xE hgO ⊢
 refine (br (x.c.at (some ⟨gT,0,none⟩) tc OA oc) gO st W4 (aC.at_ (y:=x.c) xE)).mono ?_
 rintro e W5 ⟨rfl,hb5⟩
 have xK:=xE.then hb5
 have k5:=k4.trans (hb5.mono k4.size)
 rw [show ay (x.c.at (some ⟨gT,0,none⟩) tc OA oc).t st=ay x.t st from rfl,hI]
 have yR:=L1.below k5 L1.lt
 have zO:=hA.then k5 k5.size
 have De:∀ (fn:Fn) (first cap:Array Value) (w:World),(Instr.makeFunc fn first cap).run xi w=.ok (.func fn first cap) w:=fun _ _ _ _=>rfl
 go_wp2_with fail
 refine (dN (B:=0) yR zO G (Nat.zero_le _)).mono ?_
 rintro e W6 ⟨rfl,xT⟩
 have xz:=xK.then xT
 have k6:=k5.trans (xT.mono k5.size)
 have zu:=L1.below k6 L1.lt
 obtain ⟨s0,s1,s2,s3⟩:=cells4 zu
 clear yR zO xK xE hb5 xT k4
 rw [h0]
 clear h0
 have xx:=L2.below k6 L2.lt
 have z0:=xx.cell 0
 have z1:=xx.cell 1
 have z2:=xx.cell 2
 have z3:=xx.cell 3
 have z4:=xx.cell 4
 obtain ⟨f0,f1,f2,f3,f4⟩:=frz5 xx
 simp only [gz0,gz1] at z0 z1 z2 z3 z4
 have xC:=ab (g:=w.heap.size+1) (i:=4) (u:=O U 0) (gw4 W6 (w.heap.size+1) (F none 0 0) (F none 0 0) (O U 0) (O U 0))
 have bw:=b2.trans (k6.mono b2.size)
 have bz:=bw.grown xC bw.size (by rintro _ ⟨⟩; omega)
 go_wp2
 rw [HN.out]
 refine bodyPost_ret (v:=.tuple #[.agg #[F none 0 0,F none 0 0,O U 0,O U 0,O U 0],.bool false]) (by simp [results,Tryz.results186,go_sem, *]) rfl (aE.no rfl bz)
theorem oJ (x:aN) (g:Nat) (s:de) (w:World) (h:cu w w.heap.size g x) (G:bK x) (hs:s.ok=true) :
  Calls xi 186 #[.pointer (some ⟨g,0,none⟩),s.val] w (aE w (bm x.c s)):=by
 have hS:s.okS=true:=by rw [de.ok_okS,Bool.and_eq_true] at hs; exact hs.1
 obtain ⟨xM,hI⟩:=de.okS_is hS
 clear hS hs
 obtain ⟨kd,st,pe,va⟩:=s
 by_cases hT:ay x.t st < 0
 ·cases hI with
  | get hk hp hv=>simp only at hk hp hv xM; subst hk; exact rP x g st pe va w h G hT xM hp hv
  | show_ hk hp hv=>simp only at hk; subst hk; exact fY x g 2 st pe va w h G rfl hT
  | back hk hp hv=>simp only at hk; subst hk; exact fY x g 3 st pe va w h G rfl hT
  | sell0 hk hp hv=>simp only at hk; subst hk; exact fY x g 4 st pe va w h G rfl hT
  | sell hk hp hv=>simp only at hk; subst hk; exact fY x g 4 st pe va w h G rfl hT
  | miss hk hp hv=>simp only at hk; subst hk; exact fY x g 5 st pe va w h G rfl hT
  | move hk hp hv=>simp only at hk; subst hk; exact fY x g 6 st pe va w h G rfl hT
 ·have h0:0≤ay x.t st:=oM
  have hi:=mi h0
  have hx:ay x.t st=((ay x.t st).toNat:Int):=oM
  generalize (ay x.t st).toNat=i at hi hx
  cases hI with
  | get hk hp hv=>simp only at hk hp hv; subst hk; exact rO x g st pe va w h G i hi hx hp hv
  | show_ hk hp hv=>simp only at hk hp hv; subst hk; exact uW x g st pe va w h G i hi hx hp hv
  | sell0 hk hp hv=>simp only at hk hp hv; subst hk; exact td x g st pe va w h G i hi hx hp hv
  | back hk hp hv =>
   simp only at hk hp hv; subst hk
   by_cases hn:aO st pe x.o=0
   ·exact l8 x g 3 st pe va w h G rfl rfl i hi hx oM hn
   ·exact uV x g st pe va w h G i hi hx hp hv hn
  | sell hk hp hv =>
   simp only at hk hp hv; subst hk
   by_cases hn:aO st pe x.o=0
   ·exact l8 x g 4 st pe va w h G rfl rfl i hi hx oM hn
   ·exact uU x g st pe va w h G i hi hx hp hv hn
  | miss hk hp hv =>
   simp only at hk hp hv; subst hk
   by_cases hn:aO st pe x.o=0
   ·exact l8 x g 5 st pe va w h G rfl rfl i hi hx oM hn
   ·exact uT x g st pe va w h G i hi hx hp hn
  | move hk hp hv =>
   simp only at hk hp hv; subst hk
   by_cases hn:aO st pe x.o=0
   ·exact l8 x g 6 st pe va w h G rfl rfl i hi hx oM hn
   ·exact uS x g st pe va w h G i hi hx hp hv hn
theorem mI (s:de) (w:World) :
  Calls xi 185 #[s.val] w fun e w'=>e=.returned (.bool s.ok)∧Below w.heap.size w w':=by
 obtain ⟨kd,st,pe,va⟩:=s
 have b1:=bZ w (.cells #[O U kd,O U st,O U pe,O U va] 112)
 obtain ⟨ok,xq⟩ : ∃ ok,ok=de.ok ⟨kd,st,pe,va⟩:=⟨_,rfl⟩
 rw [← xq]
 unfold de.ok at xq
 simp only at xq
 have HO:=jZ xq
 clear xq
 cases h1:bX st 1 99
 ·go_enter Tryz.func185,Tryz.ntmps185
  go_wp2_with (go_at_call 75; refine (aM _ _ _ _).mono ?_; rintro e w1 ⟨rfl,rfl⟩)
  go_ret
  exact ⟨by rw [HO.out,h1]; rfl,b1⟩
 ·by_cases k1:kd=1
  ·subst k1
   cases h2:(pe == 0)
   all_goals
    go_enter Tryz.func185,Tryz.ntmps185
    go_wp2_with (first | (go_at_call 75; refine (aM _ _ _ _).mono ?_; rintro e w1 ⟨rfl,rfl⟩) | (go_at_call 117; refine (bQ _ _).mono ?_; rintro e w1 ⟨rfl,rfl⟩))
    go_ret
    exact ⟨by rw [HO.out]; simp_all <;> rfl,b1⟩
  ·by_cases k2:kd=2
   ·subst k2
    cases h2:bX pe 1 999
    all_goals
     go_enter Tryz.func185,Tryz.ntmps185
     go_wp2_with (first | (go_at_call 75; refine (aM _ _ _ _).mono ?_; rintro e w1 ⟨rfl,rfl⟩) | (go_at_call 117; refine (bQ _ _).mono ?_; rintro e w1 ⟨rfl,rfl⟩))
     go_ret
     exact ⟨by rw [HO.out]; simp_all <;> rfl,b1⟩
   ·by_cases k3:kd=3
    ·subst k3
     cases h2:bX pe 1 999
     all_goals
      go_enter Tryz.func185,Tryz.ntmps185
      go_wp2_with (first | (go_at_call 75; refine (aM _ _ _ _).mono ?_; rintro e w1 ⟨rfl,rfl⟩) | (go_at_call 117; refine (bQ _ _).mono ?_; rintro e w1 ⟨rfl,rfl⟩))
      go_ret
      exact ⟨by rw [HO.out]; simp_all <;> rfl,b1⟩
    ·by_cases k4:kd=4
     ·subst k4
      cases h2:bX pe 0 999
      all_goals
       go_enter Tryz.func185,Tryz.ntmps185
       go_wp2_with (first | (go_at_call 75; refine (aM _ _ _ _).mono ?_; rintro e w1 ⟨rfl,rfl⟩) | (go_at_call 117; refine (bQ _ _).mono ?_; rintro e w1 ⟨rfl,rfl⟩))
       go_ret
       exact ⟨by rw [HO.out]; simp_all <;> rfl,b1⟩
     ·by_cases k5:kd=5
      ·subst k5
       cases h2:bX pe 1 999
       all_goals
        go_enter Tryz.func185,Tryz.ntmps185
        go_wp2_with (first | (go_at_call 75; refine (aM _ _ _ _).mono ?_; rintro e w1 ⟨rfl,rfl⟩) | (go_at_call 117; refine (bQ _ _).mono ?_; rintro e w1 ⟨rfl,rfl⟩))
        go_ret
        exact ⟨by rw [HO.out]; simp_all <;> rfl,b1⟩
      ·by_cases k6:kd=6
       ·subst k6
        cases h2:bX pe 1 999
        all_goals cases h3:bX va 1 999
        all_goals cases h4:(va != pe)
        all_goals
         go_enter Tryz.func185,Tryz.ntmps185
         go_wp2_with (first | (go_at_call 75; refine (aM _ _ _ _).mono ?_; rintro e w1 ⟨rfl,rfl⟩) | (go_at_call 117; refine (bQ _ _).mono ?_; rintro e w1 ⟨rfl,rfl⟩))
         go_ret
         exact ⟨by rw [HO.out]; simp_all <;> rfl,b1⟩
       ·have d1:(kd == 1)=false:=by simp [k1]
        have d2:(kd == 2)=false:=by simp [k2]
        have d3:(kd == 3)=false:=by simp [k3]
        have d4:(kd == 4)=false:=by simp [k4]
        have d5:(kd == 5)=false:=by simp [k5]
        have d6:(kd == 6)=false:=by simp [k6]
        go_enter Tryz.func185,Tryz.ntmps185
        go_wp2_with (first | (go_at_call 75; refine (aM _ _ _ _).mono ?_; rintro e w1 ⟨rfl,rfl⟩) | (go_at_call 117; refine (bQ _ _).mono ?_; rintro e w1 ⟨rfl,rfl⟩))
        go_ret
        exact ⟨by rw [HO.out]; simp_all <;> rfl,b1⟩
theorem wL:147 ≠ 40:=dD
theorem wM:104 ≠ 40:=dD
theorem lu (x:aN) (s:de) (w:World) (h:aQ w w.heap.size x) :
  Calls xi 157 #[x.val,s.val] w (aE w (if ap x && s.ok then bm x.c s else none)):=by
 obtain ⟨kd,st,pe,va⟩:=s
 have L1:=((ai.new w 40 #[F x.TA x.t.length x.tc,F x.OA x.o.length x.oc,O U x.gt,O U x.sd,O U x.ms]).alloc (.cells #[O U kd,O U st,O U pe,O U va] 112)).alloc (.cells #[F none 0 0,F none 0 0,O U 0,O U 0,O U 0] 40)
 have L2:=(ai.new1 w (.cells #[F x.TA x.t.length x.tc,F x.OA x.o.length x.oc,O U x.gt,O U x.sd,O U x.ms] 40) 112 #[O U kd,O U st,O U pe,O U va]).alloc (.cells #[F none 0 0,F none 0 0,O U 0,O U 0,O U 0] 40)
 have L3:=ai.new2 w (.cells #[F x.TA x.t.length x.tc,F x.OA x.o.length x.oc,O U x.gt,O U x.sd,O U x.ms] 40) (.cells #[O U kd,O U st,O U pe,O U va] 112) 40 #[F none 0 0,F none 0 0,O U 0,O U 0,O U 0]
 have b1:=bZ w (.cells #[F x.TA x.t.length x.tc,F x.OA x.o.length x.oc,O U x.gt,O U x.sd,O U x.ms] 40)
 have b2:=b1.alloc b1.size (.cells #[O U kd,O U st,O U pe,O U va] 112)
 have b3:=b2.alloc b2.size (.cells #[F none 0 0,F none 0 0,O U 0,O U 0,O U 0] 40)
 clear b1 b2
 have cV:=fun W hW=>aZ x w.heap.size W hW
 have cO:=fun W=>mI ⟨kd,st,pe,va⟩ W
 have cT:=fun (G:bK x) (hs:de.ok ⟨kd,st,pe,va⟩=true) W hW=>oJ x w.heap.size ⟨kd,st,pe,va⟩ W hW G hs
 cases hg:ap x
 ·have HN:Hid ((if ap x && de.ok ⟨kd,st,pe,va⟩ then bm x.c ⟨kd,st,pe,va⟩ else none)=none):=by rw [Hid,hg]; rfl
  rw [hg] at cV
  rw [show (if false && de.ok ⟨kd,st,pe,va⟩ then bm x.c ⟨kd,st,pe,va⟩ else none)=none from rfl]
  clear hg HN cO cT
  go_enter Tryz.func157,Tryz.ntmps157
  go_wp2_with fail
  generalize (((w.alloc (.cells #[F x.TA x.t.length x.tc,F x.OA x.o.length x.oc,O U x.gt,O U x.sd,O U x.ms] 40)).alloc (.cells #[O U kd,O U st,O U pe,O U va] 112)).alloc (.cells #[F none 0 0,F none 0 0,O U 0,O U 0,O U 0] 40))=W3 at L1 L2 L3 b3 ⊢
  have hA:=cu.of (x:=x) L1 (h.up b3 nR)
  refine (cV W3 hA).mono ?_
  rintro e W4 ⟨rfl,xy⟩
  have k4:=b3.trans (xy.mono b3.size)
  have yA:=L3.below xy L3.lt
  have z0:=yA.cell 0
  have z1:=yA.cell 1
  have z2:=yA.cell 2
  have z3:=yA.cell 3
  have z4:=yA.cell 4
  obtain ⟨f0,f1,f2,f3,f4⟩:=frz5 yA
  simp only [gz0,gz1] at z0 z1 z2 z3 z4
  have xC:=(gw5 W4 (w.heap.size+1+1) (F none 0 0) (F none 0 0) (O U 0) (O U 0) (O U 0))
  have bz:=k4.grown xC k4.size (by rintro _ ⟨⟩; omega)
  clear xC
  go_wp2
  refine bodyPost_ret (v:=.tuple #[.agg #[F none 0 0,F none 0 0,O U 0,O U 0,O U 0],.bool false]) (by simp [results,Tryz.results157,go_sem, *]) rfl ?_
  exact aE.no rfl bz
 ·have G:=bu.1 hg
  rw [hg] at cV
  have cT:=cT G
  clear hg G
  cases hs:de.ok ⟨kd,st,pe,va⟩
  ·rw [hs] at cO
   rw [show (if true && false then bm x.c ⟨kd,st,pe,va⟩ else none)=none from rfl]
   clear hs cT
   go_enter Tryz.func157,Tryz.ntmps157
   go_wp2_with fail
   generalize (((w.alloc (.cells #[F x.TA x.t.length x.tc,F x.OA x.o.length x.oc,O U x.gt,O U x.sd,O U x.ms] 40)).alloc (.cells #[O U kd,O U st,O U pe,O U va] 112)).alloc (.cells #[F none 0 0,F none 0 0,O U 0,O U 0,O U 0] 40))=W3 at L1 L2 L3 b3 ⊢
   have hA:=cu.of (x:=x) L1 (h.up b3 nR)
   refine (cV W3 hA).mono ?_
   rintro e W4 ⟨rfl,xy⟩
   have Dm:=L2.below xy L2.lt
   obtain ⟨s0,s1,s2,s3⟩:=cells4 Dm
   go_wp2_with fail
   refine (cO W4).mono ?_
   rintro e W5 ⟨rfl,hb5⟩
   clear s0 s1 s2 s3
   have k5:=b3.trans ((av xy hb5).mono b3.size)
   have yA:=L3.below (av xy hb5) L3.lt
   have z0:=yA.cell 0
   have z1:=yA.cell 1
   have z2:=yA.cell 2
   have z3:=yA.cell 3
   have z4:=yA.cell 4
   obtain ⟨f0,f1,f2,f3,f4⟩:=frz5 yA
   simp only [gz0,gz1] at z0 z1 z2 z3 z4
   have xC:=(gw5 W5 (w.heap.size+1+1) (F none 0 0) (F none 0 0) (O U 0) (O U 0) (O U 0))
   have bz:=k5.grown xC k5.size (by rintro _ ⟨⟩; omega)
   clear xC
   go_wp2
   refine bodyPost_ret (v:=.tuple #[.agg #[F none 0 0,F none 0 0,O U 0,O U 0,O U 0],.bool false]) (by simp [results,Tryz.results157,go_sem, *]) rfl ?_
   exact aE.no rfl bz
  ·have cT:=cT hs
   rw [hs] at cO
   rw [show (if true && true then bm x.c ⟨kd,st,pe,va⟩ else none)=bm x.c ⟨kd,st,pe,va⟩ from rfl]
   clear hs
   generalize bm x.c ⟨kd,st,pe,va⟩=R at cT ⊢
   go_enter Tryz.func157,Tryz.ntmps157
   go_wp2_with fail
   generalize (((w.alloc (.cells #[F x.TA x.t.length x.tc,F x.OA x.o.length x.oc,O U x.gt,O U x.sd,O U x.ms] 40)).alloc (.cells #[O U kd,O U st,O U pe,O U va] 112)).alloc (.cells #[F none 0 0,F none 0 0,O U 0,O U 0,O U 0] 40))=W3 at L1 L2 L3 b3 ⊢
   have hA:=cu.of (x:=x) L1 (h.up b3 nR)
   refine (cV W3 hA).mono ?_
   rintro e W4 ⟨rfl,xy⟩
   have Dm:=L2.below xy L2.lt
   obtain ⟨s0,s1,s2,s3⟩:=cells4 Dm
   go_wp2_with fail
   refine (cO W4).mono ?_
   rintro e W5 ⟨rfl,hb5⟩
   clear s0 s1 s2 s3
   have Dm:=L2.below (av xy hb5) L2.lt
   obtain ⟨s0,s1,s2,s3⟩:=cells4 Dm
   go_wp2_with fail
   refine (cT W5 (hA.then (av xy hb5) (av xy hb5).size)).mono ?_
   rintro e W6 ⟨TA,tc,OA,oc,rfl,hT,hO,xT⟩
   clear s0 s1 s2 s3
   have k56:=av (av xy hb5) xT
   have k6:=b3.trans (k56.mono b3.size)
   have yA:=L3.below k56 L3.lt
   have s36:W3.heap.size≤W5.heap.size:=(av xy hb5).size
   have z0:=yA.cell 0
   have z1:=yA.cell 1
   have z2:=yA.cell 2
   have z3:=yA.cell 3
   have z4:=yA.cell 4
   obtain ⟨f0,f1,f2,f3,f4⟩:=frz5 yA
   simp only [gz0,gz1] at z0 z1 z2 z3 z4
   obtain ⟨r,hr⟩ : ∃ r,cQ R=r:=⟨_,rfl⟩
   obtain ⟨ok,xq⟩ : ∃ ok,R.isSome=ok:=⟨_,rfl⟩
   rw [hr] at hT hO ⊢
   rw [xq]
   have HR:=jZ hr; clear hr
   have HK:=jZ xq; clear xq
   have xC:=(gw5 W6 (w.heap.size+1+1) (F TA r.t.length tc) (F OA r.o.length oc) (O U r.gt) (O U r.sd) (O U r.ms))
   have bz:=k6.grown xC k6.size (by rintro _ ⟨⟩; omega)
   have r8:=ag (ak hT yA wM xC) (jT b3.size s36)
   have r9:=ag (ak hO yA wL xC) (jT b3.size s36)
   have R8:=jZ r8; clear r8
   have R9:=jZ r9; clear r9
   clear xC hT hO
   go_wp2
   refine bodyPost_ret (v:=.tuple #[(r.at TA tc OA oc).val,.bool ok]) (by simp [results,Tryz.results157,go_sem, *]) rfl ?_
   unfold aE
   rw [HR.out,HK.out]
   exact ⟨TA,tc,OA,oc,rfl,R8.out,R9.out,bz⟩
theorem tD (A B:Option Addr) (c d:Nat) (l:List ar) (w:World) (hA:fE w w.heap.size A l) (hB:fE w w.heap.size B l) :
  Calls xi 114 #[F A l.length c,F B l.length d] w fun e w'=>e=.returned (.bool true)∧Below w.heap.size w w':=by
 have hlA:=hA.big
 have hrA:=hA.el
 have hrB:=hB.el
 have AU:((l.length:Int) != (l.length:Int))=false:=sP
 go_enter Tryz.func114,Tryz.ntmps114
 go_wp2
 go_loopw [5] (fun i wr=>∃ k:Nat,k≤l.length∧i=O U k∧(∃ q:aq w.heap.size w,wr=q.val)) (fun i _=>l.length - (intOf i).toNat)
 case atStart=>exact ⟨0,Nat.zero_le _,rfl,⟨aq.start _ _,rfl⟩⟩
 case round =>
  obtain ⟨k,hk,rfl,⟨q,rfl⟩⟩:=hrel
  by_cases xu:k < l.length
  ·obtain ⟨b,off,rfl,hb,hcell⟩:=hrA oM
   obtain ⟨b',off',rfl,hb',hcell'⟩:=hrB oM
   obtain ⟨c0,c1⟩:=hcell k xu
   obtain ⟨d0,d1⟩:=hcell' k xu
   obtain ⟨x,zC⟩ : ∃ x,x=l[k]:=⟨_,rfl⟩
   rw [← zC] at c0 c1 d0 d1
   clear zC hcell hcell' hrA hrB
   obtain ⟨v0,v1⟩:=x
   simp only at c0 c1 d0 d1
   go_wp2
   refine ba _ kZ kZ ?_
   repeat (any_goals (first | go_big_quiet_step ((fail)) | (refine wpQuiet_step (fun K hK=>?_); go_simp; split <;> (refine hK _ ?_; clear hK K))))
   all_goals (refine wpQuiet_nil ?_; rintro _ ⟨q1,rfl⟩)
   go_wp2
   go_roundw
   case rel=>exact ⟨k+1,oM,by go_num,⟨q1,rfl⟩⟩
   case measure=>simp [intOf]; omega
  ·go_wp2
   go_ret
   exact ⟨rfl,q.below⟩
theorem qD (A B:Option Addr) (c d:Nat) (l:List ae) (w:World) (hA:ee w w.heap.size A l) (hB:ee w w.heap.size B l) :
  Calls xi 115 #[F A l.length c,F B l.length d] w fun e w'=>e=.returned (.bool true)∧Below w.heap.size w w':=by
 have hlA:=hA.big
 have hrA:=hA.el
 have hrB:=hB.el
 have AU:((l.length:Int) != (l.length:Int))=false:=sP
 go_enter Tryz.func115,Tryz.ntmps115
 go_wp2
 go_loopw [5] (fun i wr=>∃ k:Nat,k≤l.length∧i=O U k∧(∃ q:aq w.heap.size w,wr=q.val)) (fun i _=>l.length - (intOf i).toNat)
 case atStart=>exact ⟨0,Nat.zero_le _,rfl,⟨aq.start _ _,rfl⟩⟩
 case round =>
  obtain ⟨k,hk,rfl,⟨q,rfl⟩⟩:=hrel
  by_cases xu:k < l.length
  ·obtain ⟨b,off,rfl,hb,hcell⟩:=hrA oM
   obtain ⟨b',off',rfl,hb',hcell'⟩:=hrB oM
   obtain ⟨c0,c1,c2⟩:=hcell k xu
   obtain ⟨d0,d1,d2⟩:=hcell' k xu
   obtain ⟨x,zC⟩ : ∃ x,x=l[k]:=⟨_,rfl⟩
   rw [← zC] at c0 c1 c2 d0 d1 d2
   clear zC hcell hcell' hrA hrB
   obtain ⟨v0,v1,v2⟩:=x
   simp only at c0 c1 c2 d0 d1 d2
   go_wp2
   refine ba _ kZ kZ ?_
   repeat (any_goals (first | go_big_quiet_step ((fail)) | (refine wpQuiet_step (fun K hK=>?_); go_simp; split <;> (refine hK _ ?_; clear hK K))))
   all_goals (refine wpQuiet_nil ?_; rintro _ ⟨q1,rfl⟩)
   go_wp2
   go_roundw
   case rel=>exact ⟨k+1,oM,by go_num,⟨q1,rfl⟩⟩
   case measure=>simp [intOf]; omega
  ·go_wp2
   go_ret
   exact ⟨rfl,q.below⟩
set_option maxRecDepth 100000 in
theorem rY (x x' : aN) (w:World) (h:aQ w w.heap.size x) (h' : aQ w w.heap.size x') (hc:x.c=x'.c) :
  Calls xi 66 #[x.val,x'.val] w fun e w'=>e=.returned (.bool true)∧Below w.heap.size w w':=by
 obtain ⟨TA,t,tc,OA,o,oc,gt,sd,ms⟩:=x
 obtain ⟨TA',t',tc',OA',o',oc',gt',sd',ms'⟩:=x'
 simp only [aN.c,Oc.mk.injEq] at hc
 obtain ⟨rfl,rfl,rfl,rfl,rfl⟩:=hc
 have L1:=(ai.new w 40 #[F TA t.length tc,F OA o.length oc,O U gt,O U sd,O U ms]).alloc (.cells #[F TA' t.length tc',F OA' o.length oc',O U gt,O U sd,O U ms] 40)
 have L2:=ai.new1 w (.cells #[F TA t.length tc,F OA o.length oc,O U gt,O U sd,O U ms] 40) 40 #[F TA' t.length tc',F OA' o.length oc',O U gt,O U sd,O U ms]
 have b2:=(bZ w (.cells #[F TA t.length tc,F OA o.length oc,O U gt,O U sd,O U ms] 40)).alloc sP (.cells #[F TA' t.length tc',F OA' o.length oc',O U gt,O U sd,O U ms] 40)
 go_enter Tryz.func66,Tryz.ntmps66
 go_wp2_with fail
 generalize ((w.alloc (.cells #[F TA t.length tc,F OA o.length oc,O U gt,O U sd,O U ms] 40)).alloc (.cells #[F TA' t.length tc',F OA' o.length oc',O U gt,O U sd,O U ms] 40))=W at L1 L2 b2 ⊢
 have hR:=h.up b2 nR
 have xX:=h'.up b2 nR
 clear h h'
 refine (tD TA TA' tc tc' t W hR.ts xX.ts).mono ?_
 rintro e w1 ⟨rfl,xp⟩
 have M1:=L1.below xp L1.lt
 have M2:=L2.below xp L2.lt
 have c1:=M1.cell 1
 have d1:=M2.cell 1
 simp only [gz0,gz1] at c1 d1
 go_wp2_with fail
 refine (qD OA OA' oc oc' o w1 (hR.then xp).os (xX.then xp).os).mono ?_
 rintro e w2 ⟨rfl,xn⟩
 have N1:=M1.below xn M1.lt
 have N2:=M2.below xn M2.lt
 clear c1 d1
 have c2:=N1.cell 2
 have c3:=N1.cell 3
 have c4:=N1.cell 4
 have d2:=N2.cell 2
 have d3:=N2.cell 3
 have d4:=N2.cell 4
 simp only [gz0,gz1] at c2 c3 c4 d2 d3 d4
 go_wp2
 go_ret
 exact ⟨sP,av b2 (av xp xn)⟩
theorem vZ (x x' : aN) (l:Lg) (w:World) (h:aQ w w.heap.size x) (h' : aQ w w.heap.size x') (hc:x.c=x'.c) :
  Calls xi 27 #[aK x l,aK x' l] w fun e w'=>e=.returned (.bool true)∧Below w.heap.size w w':=by
 obtain ⟨TA,t,tc,OA,o,oc,gt,sd,ms⟩:=x
 obtain ⟨TA',t',tc',OA',o',oc',gt',sd',ms'⟩:=x'
 obtain ⟨D,P,n⟩:=l
 simp only [aN.c,Oc.mk.injEq] at hc
 obtain ⟨rfl,rfl,rfl,rfl,rfl⟩:=hc
 have L1:=(ai.new w 42 #[F TA t.length tc,F OA o.length oc,O U gt,O U sd,O U ms,xh D,xh P,O U n]).alloc (.cells #[F TA' t.length tc',F OA' o.length oc',O U gt,O U sd,O U ms,xh D,xh P,O U n] 42)
 have L2:=ai.new1 w (.cells #[F TA t.length tc,F OA o.length oc,O U gt,O U sd,O U ms,xh D,xh P,O U n] 42) 42 #[F TA' t.length tc',F OA' o.length oc',O U gt,O U sd,O U ms,xh D,xh P,O U n]
 have b2:=(bZ w (.cells #[F TA t.length tc,F OA o.length oc,O U gt,O U sd,O U ms,xh D,xh P,O U n] 42)).alloc sP (.cells #[F TA' t.length tc',F OA' o.length oc',O U gt,O U sd,O U ms,xh D,xh P,O U n] 42)
 have x1:(D.toList == D.toList)=true:=sP
 have x2:(P.toList == P.toList)=true:=sP
 have x3:(n == n)=true:=sP
 go_enter Tryz.func27,Tryz.ntmps27
 go_wp2_with fail
 generalize ((w.alloc (.cells #[F TA t.length tc,F OA o.length oc,O U gt,O U sd,O U ms,xh D,xh P,O U n] 42)).alloc (.cells #[F TA' t.length tc',F OA' o.length oc',O U gt,O U sd,O U ms,xh D,xh P,O U n] 42))=W at L1 L2 b2 ⊢
 refine (rY ⟨TA,t,tc,OA,o,oc,gt,sd,ms⟩ ⟨TA',t,tc',OA',o,oc',gt,sd,ms⟩ W (h.up b2 nR) (h'.up b2 nR) rfl).mono ?_
 rintro e w1 ⟨rfl,xp⟩
 have M1:=L1.below xp L1.lt
 have M2:=L2.below xp L2.lt
 have c5:=M1.cell 5
 have c6:=M1.cell 6
 have c7:=M1.cell 7
 have d5:=M2.cell 5
 have d6:=M2.cell 6
 have d7:=M2.cell 7
 simp only [gz0,gz1] at c5 c6 c7 d5 d6 d7
 clear M1 M2 L1 L2 h h'
 go_wp2
 go_ret
 exact ⟨sP,av b2 xp⟩
end Go.Proofs.YtoeoimhemojdeaaGreatDoor
