/- Lemmas. -/
import Derived.Test.YtoeoimhemojdeaaGreatDoorFc49

set_option linter.unusedVariables false
set_option linter.unusedSimpArgs false
set_option maxHeartbeats 8000000
open Go.Value renaming int → O, slice → F, string → vw
open Go.IntKind renaming i64 → U
open Go.Proofs.Tryz renaming prog → vx

namespace Go.Proofs.YtoeoimhemojdeaaGreatDoor
open Go.RowKit
theorem qQ (A:Option Addr) (n c:Nat) (w:World):Calls vx 25 #[F A n c] w fun e w'=>e=.returned (.bool (decide (65536 < n)))∧w=w':=by
 by_cases h:65536 < n
 ·have h1:(65536:Int) < n:=oM
  rw [jD h]
  go_enter Tryz.func25,Tryz.ntmps25
  go_wp2
  go_ret
  exact ⟨by simp [h1],rfl⟩
 ·have h1 : ¬ (65536:Int) < n:=oM
  rw [jE h]
  go_enter Tryz.func25,Tryz.ntmps25
  go_wp2
  go_ret
  exact ⟨by simp [h1],rfl⟩
set_option maxRecDepth 100000 in
theorem me (A:Option Addr) (cap:Nat) (bs:List UInt8) (w:World) (hr:gZ w w.heap.size A bs) (ht:LW w) :
  Calls vx 6 #[F A bs.length cap] w fun e w'=>e=.returned (.bool true)∧Below w.heap.size w w':=by
 by_cases zy:65536 < bs.length
 ·have hb' : decide (65536 < bs.length)=true:=jD zy
  go_enter Tryz.func6,Tryz.ntmps6
  go_wp2_with (go_at_call 25; refine (qQ _ _ _ _).mono ?_; rintro e w' ⟨rfl,rfl⟩)
  go_ret
  exact ⟨rfl,Below.refl _ _⟩
 ·have hb' : decide (65536 < bs.length)=false:=jE zy
  go_enter Tryz.func6,Tryz.ntmps6
  go_wp2_with fail
  refine (qQ _ _ _ _).mono ?_
  rintro e w' ⟨rfl,rfl⟩
  go_wp2_with fail
  clear hb' zy
  refine (mT A cap bs w hr).mono ?_
  rintro e w1 ⟨y,l,v,t,rfl,⟨TA,tc,OA,oc,rfl,hT,hO⟩,⟨_,⟨Hl,Hm⟩,FX,CI,GT⟩,Eh,vD⟩
  have vE:=(Below.refl w1.heap.size w1).alloc nR (.cells #[F TA y.t.length tc,F OA y.o.length oc,O U y.gt,O U y.sd,O U y.ms,vw l.D,vw l.P,O U l.n] 42)
  have K3:=ah.new w1 42 #[F TA y.t.length tc,F OA y.o.length oc,O U y.gt,O U y.sd,O U y.ms,vw l.D,vw l.P,O U l.n]
  have R3:aP (w1.alloc (.cells #[F TA y.t.length tc,F OA y.o.length oc,O U y.gt,O U y.sd,O U y.ms,vw l.D,vw l.P,O U l.n] 42)) (w1.alloc (.cells #[F TA y.t.length tc,F OA y.o.length oc,O U y.gt,O U y.sd,O U y.ms,vw l.D,vw l.P,O U l.n] 42)).heap.size (y.at TA tc OA oc):=aP.then ⟨ay hT,ay hO⟩ vE
  have T2:=(ht.then vD).then vE
  have B2:=av vD vE
  clear vE vD ht hr hT hO
  -- what the command gives,as values
  have hE:=nT y l t
  have DV:(y.at TA tc OA oc).t.length≤1048576:=by show y.t.length≤_; omega
  have DW:(y.at TA tc OA oc).o.length≤1048576:=by show y.o.length≤_; omega
  have cI:∀ W,aP W W.heap.size (y.at TA tc OA oc)→LW W→Calls vx 16 #[aI (y.at TA tc OA oc) l,vw t] W fun e w'=>∃ v,e=.returned (.tuple #[v,vw (kL y l t)])∧iv w' W.heap.size (oo y l t) (lA y l t) v∧Below W.heap.size W w' :=
   fun W h hL=>rU (y.at TA tc OA oc) l t W h DV DW oM oM hL
  have cS:∀ W,aP W W.heap.size (y.at TA tc OA oc)→Calls vx 14 #[aI (y.at TA tc OA oc) l,vw t] W fun e w'=>∃ v,e=.returned (.tuple #[v,vw (kL y l t)])∧iv w' W.heap.size (oo y l t) (lA y l t) v∧Below W.heap.size W w' :=
   fun W h=>nK (y.at TA tc OA oc) l t W h DV DW oM oM
  have Cj:Hid (∀ W,aP W W.heap.size (y.at TA tc OA oc)→LW W→Calls vx 28 #[aI (y.at TA tc OA oc) l] W fun e w'=>e=.returned (.bool (oS y l))∧Below W.heap.size W w'):=fun W h hL=>dA (y.at TA tc OA oc) l W h oM hL.tab
  have De:Hid (∀ W,aP W W.heap.size (y.at TA tc OA oc)→Calls vx 29 #[aI (y.at TA tc OA oc) l] W fun e w'=>e=.returned (.bool (oS y l))∧Below W.heap.size W w'):=fun W h=>lq (y.at TA tc OA oc) l W h oM
  have hF:(oS (oo y l t) (lA y l t)=true∧(lA y l t).n=l.n+1∧l.ok=true∧gf (lA y l t)=gf l++[⟨t,kL y l t⟩]) ∨ (oo y l t=y∧lA y l t=l∧(kL y l t=⟨#[110,111]⟩ ∨ kL y l t=⟨#[98,97,100]⟩ ∨ kL y l t=⟨#[102,117,108,108]⟩)):=by
   rcases hE with h | h
   ·exact .inl ⟨pC t h.ok,h.n,(fW.1 h.ok).2,h.recs⟩
   ·exact .inr h
  clear hE DV DW
  obtain ⟨ok,vF⟩ : ∃ ok,oS y l=ok:=⟨_,rfl⟩
  obtain ⟨z,hz⟩ : ∃ z,oo y l t=z:=⟨_,rfl⟩
  obtain ⟨q,hq⟩ : ∃ q,lA y l t=q:=⟨_,rfl⟩
  obtain ⟨T,Et⟩ : ∃ T,kL y l t=T:=⟨_,rfl⟩
  rw [vF] at Cj De
  rw [hz,hq,Et] at hF
  simp only [hz,hq,Et] at cI cS
  clear vF hz hq Et
  have HF:=jZ hF
  have HI:=jZ cI
  have HS:=jZ cS
  clear hF cI cS
  go_upto_region 4 with fail
  generalize w1.alloc (.cells #[F TA y.t.length tc,F OA y.o.length oc,O U y.gt,O U y.sd,O U y.ms,vw l.D,vw l.P,O U l.n] 42)=w2 at K3 R3 T2 B2 ⊢
  generalize w1.heap.size=g3 at K3 ⊢
  obtain ⟨c0,c1,c2,c3,c4,c5,c6,c7⟩:=cells8 K3
  go_wp2_with fail
  refine (HI.out w2 R3 T2).mono ?_
  rintro e w3 ⟨v,rfl,⟨TA5,tc5,OA5,oc5,rfl,hT,hO⟩,vQ⟩
  have vE:=(Below.refl w3.heap.size w3).alloc nR (.cells #[F TA5 z.t.length tc5,F OA5 z.o.length oc5,O U z.gt,O U z.sd,O U z.ms,vw q.D,vw q.P,O U q.n] 42)
  have K5:=ah.new w3 42 #[F TA5 z.t.length tc5,F OA5 z.o.length oc5,O U z.gt,O U z.sd,O U z.ms,vw q.D,vw q.P,O U q.n]
  have R5:aP (w3.alloc (.cells #[F TA5 z.t.length tc5,F OA5 z.o.length oc5,O U z.gt,O U z.sd,O U z.ms,vw q.D,vw q.P,O U q.n] 42)) (w3.alloc (.cells #[F TA5 z.t.length tc5,F OA5 z.o.length oc5,O U z.gt,O U z.sd,O U z.ms,vw q.D,vw q.P,O U q.n] 42)).heap.size (z.at TA5 tc5 OA5 oc5):=aP.then ⟨ay hT,ay hO⟩ vE
  have hx:=av vQ vE
  replace B2:=av B2 hx
  replace K3:=K3.below hx K3.lt
  replace R3:=R3.then hx
  have T4:=T2.then hx
  clear vE vQ hT hO hx T2 HI c0 c1 c2 c3 c4 c5 c6 c7
  go_upto_region 5 with fail
  generalize w3.alloc (.cells #[F TA5 z.t.length tc5,F OA5 z.o.length oc5,O U z.gt,O U z.sd,O U z.ms,vw q.D,vw q.P,O U q.n] 42)=w4 at K3 K5 R3 R5 T4 B2 ⊢
  generalize w3.heap.size=g5 at K5 ⊢
  obtain ⟨c0,c1,c2,c3,c4,c5,c6,c7⟩:=cells8 K3
  go_wp2_with fail
  refine (HS.out w4 R3).mono ?_
  rintro e w5 ⟨v,rfl,⟨TA7,tc7,OA7,oc7,rfl,hT,hO⟩,hb5⟩
  have vE:=(Below.refl w5.heap.size w5).alloc nR (.cells #[F TA7 z.t.length tc7,F OA7 z.o.length oc7,O U z.gt,O U z.sd,O U z.ms,vw q.D,vw q.P,O U q.n] 42)
  have K7:=ah.new w5 42 #[F TA7 z.t.length tc7,F OA7 z.o.length oc7,O U z.gt,O U z.sd,O U z.ms,vw q.D,vw q.P,O U q.n]
  have R7:aP (w5.alloc (.cells #[F TA7 z.t.length tc7,F OA7 z.o.length oc7,O U z.gt,O U z.sd,O U z.ms,vw q.D,vw q.P,O U q.n] 42)) (w5.alloc (.cells #[F TA7 z.t.length tc7,F OA7 z.o.length oc7,O U z.gt,O U z.sd,O U z.ms,vw q.D,vw q.P,O U q.n] 42)).heap.size (z.at TA7 tc7 OA7 oc7):=aP.then ⟨ay hT,ay hO⟩ vE
  have hx:=av hb5 vE
  replace B2:=av B2 hx
  replace K3:=K3.below hx K3.lt
  replace R3:=R3.then hx
  replace K5:=K5.below hx K5.lt
  replace R5:=R5.then hx
  have T6:=T4.then hx
  clear vE hb5 hT hO hx T4 HS c0 c1 c2 c3 c4 c5 c6 c7
  go_upto_region 6 with fail
  generalize w5.alloc (.cells #[F TA7 z.t.length tc7,F OA7 z.o.length oc7,O U z.gt,O U z.sd,O U z.ms,vw q.D,vw q.P,O U q.n] 42)=w6 at K3 K5 K7 R3 R5 R7 T6 B2 ⊢
  generalize w5.heap.size=g7 at K7 ⊢
  have x1:(T.toList == T.toList)=true:=sP
  have x2:(T.toList != T.toList)=false:=sP
  refine al (fun _=>(fun W9=>Below w6.heap.size w6 W9)) (fun _ w1 w2=>Below w1.heap.size w1 w2) kZ kZ kZ jB.drew ?_
  simp only [aw,Act.put,sA,gs0,gs1,Nat.zero_add,Nat.reduceAdd]
  refine aa _ vp0 ?_
  refine aa _ vp0 ?_
  refine aa _ (vp2 0 1) ?_
  refine aa _ (vp1 2) ?_
  refine aa _ (vp1C8 3 K5) ?_
  refine aa _ (vp1C8 3 K7) ?_
  refine aa (.bool true) (fun vs L9 w9 vA vy hB K9 vz=>?_) ?_
  next =>
   have d4:=fe hB 4
   have d5:=fe hB 5
   have d3:=fe hB 3
   simp only [d4,d5,d3] at vz ⊢
   go_simp
   refine (qP (z.at TA5 tc5 OA5 oc5) (z.at TA7 tc7 OA7 oc7) q w9 (R5.then vy) (R7.then vy) rfl).mono ?_
   rintro en w8 ⟨rfl,vB⟩
   exact vz _ _ rfl (vy.trans (vB.mono vy.size)) vB
  refine aa _ (vp2 6 3) ?_
  refine aa _ (vp2 3 7) ?_
  refine aa _ (vp1 8) ?_
  refine aa _ (vp1C8 9 K3) ?_
  refine aa (.bool ok) (fun vs L9 w9 vA vy hB K9 vz=>?_) ?_
  next =>
   have d10:=fe hB 10
   have d9:=fe hB 9
   simp only [d10,d9] at vz ⊢
   go_simp
   refine (Cj.out w9 (R3.then vy) (T6.then vy)).mono ?_
   rintro en w8 ⟨rfl,vB⟩
   exact vz _ _ rfl (vy.trans (vB.mono vy.size)) vB
  refine aa _ (vp1C8 9 K3) ?_
  refine aa (.bool ok) (fun vs L9 w9 vA vy hB K9 vz=>?_) ?_
  next =>
   have d12:=fe hB 12
   have d9:=fe hB 9
   simp only [d12,d9] at vz ⊢
   go_simp
   refine (De.out w9 (R3.then vy)).mono ?_
   rintro en w8 ⟨rfl,vB⟩
   exact vz _ _ rfl (vy.trans (vB.mono vy.size)) vB
  refine aa (.bool false) (fun vs L9 w9 vA vy hB K9 vz=>?_) ?_
  next =>
   have d11:=fe hB 11
   have d13:=fe hB 13
   have d9:=fe hB 9
   simp only [d11,d13,d9] at vz ⊢
   have x5:(ok != ok)=false:=by cases ok <;> rfl
   go_simp
   exact vz _ _ rfl vy jB
  refine aa _ (vp2 9 14) ?_
  refine au fun vs Lq w8 vI vB hB=>?_
  have dl:=ag.eq (hB 15 _ rfl rfl dD)
  simp only [dl]
  clear hB vI dl
  replace B2:=av B2 vB
  replace K3:=K3.below vB K3.lt
  replace K5:=K5.below vB K5.lt
  replace R3:=R3.then vB
  replace R5:=R5.then vB
  have T8:=T6.then vB
  clear K7 R7 T6 vB Cj De x2
  rcases HF.out with ⟨Dj,JA,JB,FR⟩ | ⟨rfl,rfl,Et⟩
  ·have vJ:(q.n == l.n)=false:=by rw [beq_eq_false_iff_ne]; omega
   have wH:=tH Dj
   have cR:=fun W h=>kM q W wH.2.2 h
   unfold ma at cR
   have JC:q.ok=true:=(fW.1 Dj).2
   have HQ:=jZ JA
   have HL:=jZ (ko JB)
   have JD:=jZ FR
   have Ll:=jZ Dj
   have Fu:=jZ wH.2.2
   rw [JC] at cR
   have Lm:=jZ cR
   clear Dj JA FR JB JC wH HF cR
   obtain ⟨b1,vD⟩ : ∃ b,(q.D.toList == l.D.toList)=b:=⟨_,rfl⟩
   obtain ⟨b2,vC⟩ : ∃ b,(q.P.toList == l.P.toList)=b:=⟨_,rfl⟩
   obtain ⟨k0,k1,k2,k3,k4,k5,k6,k7⟩:=cells8 K5
   obtain ⟨c0,c1,c2,c3,c4,c5,c6,c7⟩:=cells8 K3
   go_wp2_with fail
   refine (Lm.out w8 T8.tab).mono ?_
   rintro e w9 ⟨A9,c9,m,rfl,hm,wB,hb9⟩
   have Ep:m=gf l++[⟨t,T⟩]:=(uy hm).trans JD.out
   have Cx:(m.length:Int)=l.n+1:=by rw [Ep,List.length_append,List.length_singleton]; have:=HL.out; omega
   obtain ⟨k,hk⟩ : ∃ k,m.length=k+1:=⟨(gf l).length,by rw [Ep,List.length_append]; rfl⟩
   have hlast:∀ h:k < m.length,m[k]=⟨t,T⟩:=fun h=>by
    have Eg:k=(gf l).length:=by rw [Ep,List.length_append,List.length_singleton] at hk; omega
    subst Ep; subst Eg
    exact List.getElem_concat_length rfl h
   have HV:Hid (∀ W,aP W W.heap.size (z.at TA5 tc5 OA5 oc5)→LW W→Calls vx 28 #[aI (z.at TA5 tc5 OA5 oc5) q] W fun e w'=>e=.returned (.bool true)∧Below W.heap.size W w'):=fun W h hL=>by
    have:=dA (z.at TA5 tc5 OA5 oc5) q W h Fu.out hL.tab
    rw [show dV (z.at TA5 tc5 OA5 oc5) q=true from Ll.out] at this; exact this
   have RR:=mL.of wB
   replace B2:=av B2 hb9
   replace K3:=K3.below hb9 K3.lt
   replace K5:=K5.below hb9 K5.lt
   replace R5:=R5.then hb9
   have T9:=T8.then hb9
   clear R3 T8 wB hb9 hm Ep JD HQ vJ vD vC c0 c1 c2 c3 c4 c5 c6 c7 k0 k1 k2 k3 k4 k5 k6 k7
   obtain ⟨k0,k1,k2,k3,k4,k5,k6,k7⟩:=cells8 K5
   have HK:=jZ hk
   have FF:=jZ Cx
   have Ec:=jZ hlast
   clear hk Cx hlast
   go_wp2_with fail
   refine (HV.out w9 R5 T9).mono ?_
   rintro e w10 ⟨rfl,hb10⟩
   have L3:=K3.below hb10 K3.lt
   have c7:=L3.cell 7
   simp only [gz0,gz1] at c7
   obtain ⟨b9,o9,rfl,_,hc9⟩:=(RR.then hb10).cells (by have:=HK.out; omega)
   have GC:=hc9 k (by have:=HK.out; omega) (ap.start _ _)
   rw [Ec.out _] at GC
   have e0:w10.cell? ⟨b9,o9+k * 2,none⟩=some (vw t):=GC.1
   have e1:w10.cell? ⟨b9,o9+k * 2+1,none⟩=some (vw T):=GC.2
   have B3:=av B2 hb10
   have Cx:=FF.out
   rw [HK.out] at Cx ⊢
   have h1:((((k+1:Nat):Int)) == l.n+1)=true:=by rw [beq_iff_eq]; exact Cx
   have h2:(((k:Int)+1) == l.n+1)=true:=by rw [beq_iff_eq]; omega
   have zV:IntKind.i64.wrap (l.n+1)=l.n+1:=IntWalk.i64_in _ oM
   have Md:IntKind.i64.wrap (((k+1:Nat):Int) - 1)=(k:Int):=by rw [IntWalk.i64_in _ oM]; omega
   have AY:IntKind.i64.wrap ((k:Int)+1 - 1)=(k:Int):=by rw [IntWalk.i64_in _ oM]; omega
   have i1:(0:Int)≤(k:Int):=oM
   have i3:k≤1000:=oM
   have Me:IntKind.i64.wrap (k:Int)=(k:Int):=IntWalk.i64_in _ oM
   have i2:(k:Int) < ((k+1:Nat):Int):=oM
   have x4:(t.toList == t.toList)=true:=sP
   clear Cx hc9 GC L3 K3 K5 R5 T9 RR B2 hb10 HV HK FF Ec
   go_wp2
   go_ret
   exact ⟨rfl,B3⟩
  ·have d1:(q.D.toList == q.D.toList)=true:=sP
   have d2:(q.P.toList == q.P.toList)=true:=sP
   have d3:(q.n == q.n)=true:=sP
   have wJ:∃ b1 b2 b3:Bool,(T.toList == [110,111])=b1∧(T.toList == [98,97,100])=b2∧(T.toList == [102,117,108,108])=b3∧((b1=true∧b2=false∧b3=false) ∨ (b1=false∧b2=true∧b3=false) ∨ (b1=false∧b2=false∧b3=true)):=by
    simp only [uK]
    rcases Et with rfl | rfl | rfl
    ·exact ⟨true,false,false,rfl,rfl,rfl,.inl ⟨rfl,rfl,rfl⟩⟩
    ·exact ⟨false,true,false,rfl,rfl,rfl,.inr (.inl ⟨rfl,rfl,rfl⟩)⟩
    ·exact ⟨false,false,true,rfl,rfl,rfl,.inr (.inr ⟨rfl,rfl,rfl⟩)⟩
   clear Et HF
   obtain ⟨b1,b2,b3,s1,s2,s3,hb⟩:=wJ
   obtain ⟨k0,k1,k2,k3,k4,k5,k6,k7⟩:=cells8 K5
   obtain ⟨c0,c1,c2,c3,c4,c5,c6,c7⟩:=cells8 K3
   have HV:=jZ (qP (z.at TA5 tc5 OA5 oc5) (z.at TA tc OA oc) q w8 R5 R3 rfl)
   clear K3 K5 R3 R5 T8 FX CI GT
   rcases hb with ⟨rfl,rfl,rfl⟩ | ⟨rfl,rfl,rfl⟩ | ⟨rfl,rfl,rfl⟩
   all_goals
    go_wp2_with fail
    refine HV.out.mono ?_
    rintro e w9 ⟨rfl,hb9⟩
    have B3:=av B2 hb9
    clear hb9 HV k0 k1 k2 k3 k4 k5 k6 k7 c0 c1 c2 c3 c4 c5 c6 c7
    go_wp2
    go_ret
    exact ⟨rfl,B3⟩
end Go.Proofs.YtoeoimhemojdeaaGreatDoor
