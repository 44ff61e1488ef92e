/- Lemmas. -/
import Derived.Test.YtoeoimhemojdeaaGreatDoorFr08

set_option linter.unusedVariables false
set_option linter.unusedSimpArgs false
set_option maxHeartbeats 8000000
open Go.Value renaming int → O, slice → F, string → xh
open Go.IntKind renaming i64 → U
open Go.Proofs.Tryz renaming prog → xi

namespace Go.Proofs.YtoeoimhemojdeaaGreatDoor
open Go.RowKit
abbrev bE (k:Int):ae→Bool:=fun o=>decide (o.k=k)
def rC (c o:ByteArray):ByteArray:=c++⟨#[32,105,110,32]⟩++o++⟨#[32,111,117,116]⟩
abbrev bM (n:Int):ByteArray:=⟨(Lib.itoa n).toArray⟩
def mD (x:aN) (kd:Int):ByteArray:=rC (bM (x.t.getD (ay x.t kd).toNat default).c) (bM (aW (bE kd) x.o))
def eH (x:aN) (kd:Int):ByteArray:=if ap x && aS x.t kd then mD x kd else ⟨#[]⟩
theorem oC {α:Type} (f:α→Bool):∀ (l:List α) (k:Nat) (i:Nat),bB f k l=(i:Int)→k≤i∧∃ h:i - k < l.length,f l[i - k]=true
 | [],k,i,h=>by simp [bB] at h
 | x :: l,k,i,h=>by
  rw [bB] at h
  split at h
  ·rename_i hx
   obtain rfl:k=i:=oM
   exact ⟨Nat.le_refl _,sP,by simpa using hx⟩
  ·obtain ⟨h1,h2,h3⟩:=oC f l (k+1) i h
   refine ⟨oM,by simp; omega, ?_⟩
   have e:i - k=(i - (k+1))+1:=oM
   simp only [e,List.getElem_cons_succ]
   exact h3
theorem ir {ts:List ar} {kd:Int} {i:Nat} (h:ay ts kd=i):∃ hi:i < ts.length,ts[i].k=kd:=by
 obtain ⟨_,h2,h3⟩:=oC _ ts 0 i h
 simp only [Nat.sub_zero] at h2 h3
 exact ⟨h2,of_decide_eq_true h3⟩
theorem gJ {ts:List ar} {kd:Int} (h:0≤ay ts kd):∃ i:Nat,ay ts kd=i:=⟨(ay ts kd).toNat,oM⟩
set_option maxRecDepth 100000 in
theorem rD (x:aN) (i:Nat) (kd:Int) (w:World) (h:aQ w w.heap.size x) (G:bK x) (hi:i < x.t.length) (hk:x.t[i].k=kd) :
  Calls xi 72 #[x.val,O U i] w fun e w'=>e=.returned (xh (rC (bM x.t[i].c) (bM (aW (bE kd) x.o))))∧Below w.heap.size w w':=by
 have hb0:=bZ w (.cells #[F x.TA x.t.length x.tc,F x.OA x.o.length x.oc,O U x.gt,O U x.sd,O U x.ms] 40)
 have hS:=nW.of (x:=x) (ai.new w 40 #[F x.TA x.t.length x.tc,F x.OA x.o.length x.oc,O U x.gt,O U x.sd,O U x.ms])
 have hR:=h.up hb0 nR
 have HO:=jZ G.oall
 have ol:=G.ol
 have tl:=G.tl
 have Bz:=(ar.bounds (G.tall i hi)).2
 have EI:=fN (bE kd) x.t x.o 0 G.oall
 change 0≤aW (bE kd) x.o∧aW (bE kd) x.o≤_ at EI
 have HF:Hid (bI (bE kd) 0 (x.o.drop 0)=aW (bE kd) x.o):=rfl
 have HT:Hid (rC (bM x.t[i].c) (bM (aW (bE kd) x.o))=bM x.t[i].c++⟨#[32,105,110,32]⟩++bM (aW (bE kd) x.o)++⟨#[32,111,117,116]⟩):=rfl
 obtain ⟨tr,ze⟩ : ∃ tr,x.t[i]=tr:=⟨_,rfl⟩
 rw [ze] at hk Bz HT ⊢
 go_enter Tryz.func72,Tryz.ntmps72
 go_wp2
 generalize w.alloc (.cells #[F x.TA x.t.length x.tc,F x.OA x.o.length x.oc,O U x.gt,O U x.sd,O U x.ms] 40)=W at hb0 hS hR ⊢
 obtain ⟨s0,s1,s2,s3,s4⟩:=hS
 obtain ⟨bt,ot,zI,_,AQ⟩:=hR.ts.el oM
 obtain ⟨t0,t1⟩:=AQ i hi
 have yt:=hR.os.el
 simp only [zI] at s0
 rw [ze] at t0 t1
 clear AQ zI ze
 subst hk
 obtain ⟨AT,CG⟩:=Bz
 obtain ⟨Hs,Kx⟩:=EI
 have y8:(0:Int)≤(i:Int):=oM
 have Lm:(i:Int) < (x.t.length:Int):=oM
 go_loopw [5,6] (fun s k wr=>∃ (j:Nat) (u:Int),j≤x.o.length∧k=O U j∧s=O U u∧(0≤u∧u≤9999 * (j:Int))∧(∃ q:aq W.heap.size W,wr=q.val)∧Hid (bI (bE tr.k) u (x.o.drop j)=aW (bE tr.k) x.o)) (fun _ k _=>x.o.length - (intOf k).toNat)
 case atStart=>exact ⟨0,0,Nat.zero_le _,rfl,rfl,oM,⟨aq.start _ _,rfl⟩,HF⟩
 case round =>
  obtain ⟨j,u,hj,rfl,rfl,⟨u0,u1⟩,⟨p,rfl⟩,HU⟩:=hrel
  by_cases Dc:j < x.o.length
  ·obtain ⟨b,off,hA,hb,hcell⟩:=yt oM
   obtain ⟨e0,e1,e2⟩:=hcell j Dc
   obtain ⟨_,_,x1,x2⟩:=ae.bounds (HO.out j Dc)
   have HS:Hid (bI (bE tr.k) u (x.o.drop j)=bI (bE tr.k) (if bE tr.k x.o[j] then u+x.o[j].c else u) (x.o.drop (j+1))):=lC (f:=bE tr.k) Dc u
   obtain ⟨r,xW⟩ : ∃ r,r=x.o[j]:=⟨_,rfl⟩
   rw [← xW] at e0 e1 e2 HS x1 x2
   simp only [hA] at s1
   clear xW hcell yt hA
   by_cases hz:r.k=tr.k
   ·have hv:(r.k == tr.k)=true:=by simp [hz]
    have HE:Hid (bI (bE tr.k) (u+r.c) (x.o.drop (j+1))=aW (bE tr.k) x.o):=by
     have h1:=HU.out; rw [HS.out,show bE tr.k r=true from jD hz,if_pos rfl] at h1; exact h1
    clear hz HS
    go_wp2
    refine ba _ kZ kZ ?_
    repeat (any_goals (first | go_big_quiet_step ((fail)) | (refine wpQuiet_step (fun K hK=>?_); go_simp; split <;> (refine hK _ ?_; clear hK K))))
    all_goals (refine wpQuiet_nil ?_; rintro _ ⟨q1,rfl⟩)
    all_goals go_wp2
    go_roundw
    case rel=>exact ⟨j+1,u+r.c,oM,by go_num,rfl,oM,⟨q1,rfl⟩,HE⟩
    case measure=>simp [intOf]; omega
   ·have hv:(r.k == tr.k)=false:=by simp [hz]
    have HE:Hid (bI (bE tr.k) u (x.o.drop (j+1))=aW (bE tr.k) x.o):=by
     have h1:=HU.out; rw [HS.out,show bE tr.k r=false from jE hz,if_neg sP] at h1; exact h1
    clear hz HS
    go_wp2
    refine ba _ kZ kZ ?_
    repeat (any_goals (first | go_big_quiet_step ((fail)) | (refine wpQuiet_step (fun K hK=>?_); go_simp; split <;> (refine hK _ ?_; clear hK K))))
    all_goals (refine wpQuiet_nil ?_; rintro _ ⟨q1,rfl⟩)
    all_goals go_wp2
    go_roundw
    case rel=>exact ⟨j+1,u,oM,by go_num,rfl,oM,⟨q1,rfl⟩,HE⟩
    case measure=>simp [intOf]; omega
  ·have Cw:Hid (u=aW (bE tr.k) x.o):=by
    have h1:=HU.out; rw [List.drop_eq_nil_of_le oM] at h1; exact h1
   have z1:=cU AT (by omega:tr.c≤1000000000)
   have z2:=cU u0 (by omega:u≤1000000000)
   obtain ⟨SA,Jg⟩ : ∃ SA,bM tr.c=SA:=⟨_,rfl⟩
   obtain ⟨SB,Jh⟩ : ∃ SB,bM u=SB:=⟨_,rfl⟩
   have cA:∀ W,Calls xi 71 #[O U tr.c] W fun e w'=>e=.returned (xh SA)∧Below W.heap.size W w':=fun W=>by rw [← Jg]; exact cy tr.c W AT oM
   have cB:∀ W,Calls xi 71 #[O U u] W fun e w'=>e=.returned (xh SB)∧Below W.heap.size W w':=fun W=>by rw [← Jh]; exact cy u W u0 oM
   have z1' : SA.size≤100:=by rw [← Jg]; exact z1
   have z2' : SB.size≤100:=by rw [← Jh]; exact z2
   have HA:=jZ Jg
   have HB:=jZ Jh
   clear yt Jg Jh z1 z2
   go_wp2_with fail
   refine (cA _).mono ?_
   rintro e w1 ⟨rfl,xp⟩
   go_wp2_with fail
   refine (cB _).mono ?_
   rintro e w2 ⟨rfl,xn⟩
   go_wp2
   go_ret
   exact ⟨by rw [HT.out,← Cw.out,HA.out,HB.out]; rfl,av (av (av hb0 p.below) xp) xn⟩
theorem lX {x:aN} {kd:Int} (h:(ap x && aS x.t kd)=false):eH x kd=⟨#[]⟩:=by unfold eH; rw [h]; rfl
theorem kM {x:aN} {kd:Int} {i:Nat} (hg:ap x=true) (hI:ay x.t kd=i) (hi:i < x.t.length):(ap x && aS x.t kd)=true∧eH x kd=rC (bM x.t[i].c) (bM (aW (bE kd) x.o)):=by
 have h1:aS x.t kd=true:=by rw [← dP,hI]; simp
 refine ⟨by rw [hg,h1]; rfl, ?_⟩
 unfold eH mD
 rw [hg,h1,hI,Int.toNat_natCast,List.getD_eq_getElem?_getD,List.getElem?_eq_getElem hi]; rfl
theorem jU {ts:List ar} {kd:Int} (h : ¬ 0≤ay ts kd):aS ts kd=false:=by rw [← dP,jE h]
set_option maxRecDepth 100000 in
theorem mE (x:aN) (kd:Int) (w:World) (h:aQ w w.heap.size x) :
  Calls xi 178 #[x.val,O U kd] w fun e w'=>e=.returned (.tuple #[xh (eH x kd),.bool (ap x && aS x.t kd)])∧Below w.heap.size w w':=by
 have b1:=bZ w (.cells #[F x.TA x.t.length x.tc,F x.OA x.o.length x.oc,O U x.gt,O U x.sd,O U x.ms] 40)
 have hA:=iy h 40
 have cG:=fun W hW=>ei x W hW
 have cT:=fun W hW=>bP x kd W hW
 cases hg:ap x
 ·rw [hg] at cG
  have HN:=jZ (lX (x:=x) (kd:=kd) (by rw [hg]; rfl))
  clear hg
  rw [HN.out]
  generalize ay x.t kd=I at cT
  go_enter Tryz.func178,Tryz.ntmps178
  go_wp2_with fail
  generalize w.alloc (.cells #[F x.TA x.t.length x.tc,F x.OA x.o.length x.oc,O U x.gt,O U x.sd,O U x.ms] 40)=W at b1 hA ⊢
  obtain ⟨p0,p1,p2,p3,p4⟩:=hA.s
  refine (aX (cT _ hA.r)).mono ?_
  rintro e w1 ⟨rfl,q1,rfl⟩
  go_wp2_with fail
  refine (aP nR (cG _ (hA.r.at q1))).mono ?_
  rintro e w2 ⟨rfl,q2,rfl⟩
  go_wp2
  go_ret2
  exact ⟨rfl,b1.trans (q2.below.mono b1.size)⟩
 ·rw [hg] at cG
  have G:=bu.1 hg
  by_cases hI:0≤ay x.t kd
  ·obtain ⟨i,hi⟩:=gJ hI
   obtain ⟨xu,hk⟩:=ir hi
   have HY:=jZ (kM hg hi xu).2
   have HT:Hid (aS x.t kd=true):=by have:=(kM hg hi xu).1; rw [hg] at this; exact this
   have cX:=fun W hW=>rD x i kd W hW G xu hk
   rw [hi] at cT
   clear hg hI hi
   rw [HY.out,HT.out]
   generalize rC (bM x.t[i].c) (bM (aW (bE kd) x.o))=TX at cX ⊢
   go_enter Tryz.func178,Tryz.ntmps178
   go_wp2_with fail
   generalize w.alloc (.cells #[F x.TA x.t.length x.tc,F x.OA x.o.length x.oc,O U x.gt,O U x.sd,O U x.ms] 40)=W at b1 hA ⊢
   obtain ⟨p0,p1,p2,p3,p4⟩:=hA.s
   refine (aX (cT _ hA.r)).mono ?_
   rintro e w1 ⟨rfl,q1,rfl⟩
   go_wp2_with fail
   refine (aP nR (cG _ (hA.r.at q1))).mono ?_
   rintro e w2 ⟨rfl,q2,rfl⟩
   go_wp2_with fail
   refine (aP nR (cX _ (hA.r.at q2))).mono ?_
   rintro e w3 ⟨rfl,q3,rfl⟩
   go_wp2
   go_ret2
   exact ⟨rfl,b1.trans (q3.below.mono b1.size)⟩
  ·have HH:=jZ (jU hI)
   have HN:=jZ (lX (x:=x) (kd:=kd) (by rw [jU hI,Bool.and_false]))
   clear hg
   rw [HN.out,HH.out]
   generalize ay x.t kd=I at cT hI
   go_enter Tryz.func178,Tryz.ntmps178
   go_wp2_with fail
   generalize w.alloc (.cells #[F x.TA x.t.length x.tc,F x.OA x.o.length x.oc,O U x.gt,O U x.sd,O U x.ms] 40)=W at b1 hA ⊢
   obtain ⟨p0,p1,p2,p3,p4⟩:=hA.s
   refine (aX (cT _ hA.r)).mono ?_
   rintro e w1 ⟨rfl,q1,rfl⟩
   go_wp2_with fail
   refine (aP nR (cG _ (hA.r.at q1))).mono ?_
   rintro e w2 ⟨rfl,q2,rfl⟩
   go_wp2
   go_ret2
   exact ⟨rfl,b1.trans (q2.below.mono b1.size)⟩
theorem sL (t:ae) (gk:Nat) (kd:Int) (w:World) (hL:ai w gk 3 [O U kd]) :
  Calls xi 125 (#[t.val]++#[.pointer (some ⟨gk,0,none⟩)]) w fun e w'=>e=.returned (.bool (bE kd t))∧Below w.heap.size w w':=by
 show Calls xi 125 #[t.val,.pointer (some ⟨gk,0,none⟩)] w _
 have b1:=bZ w (.cells #[O U t.k,O U t.p,O U t.c] 147)
 have c0:=(hL.alloc (.cells #[O U t.k,O U t.p,O U t.c] 147)).cell 0
 simp only [List.getElem?_cons_zero] at c0
 obtain ⟨v,hv⟩ : ∃ v,(t.k == kd)=v:=⟨_,rfl⟩
 have HV:Hid (bE kd t=v):=by rw [← hv]; unfold Hid; rw [Bool.eq_iff_iff]; simp [bE]
 go_enter Tryz.func125,Tryz.ntmps125
 go_wp2
 go_ret
 exact ⟨by rw [HV.out]; rfl,b1⟩
set_option maxRecDepth 100000 in
theorem ik (x:aN) (g i:Nat) (kd:Int) (w:World) (h:cu w w.heap.size g x) (G:bK x) (hI:ay x.t kd=i) (hi:i < x.t.length) (ht:jj w) :
  Calls xi 70 #[.pointer (some ⟨g,0,none⟩),O U kd] w fun e w'=>e=.returned (xh (rC (bM x.t[i].c) (bM (aW (bE kd) x.o))))∧Below w.heap.size w w':=by
 have De:∀ (fn:Fn) (first cap:Array Value) (w:World),(Instr.makeFunc fn first cap).run xi w=.ok (.func fn first cap) w:=fun _ _ _ _=>rfl
 have b1:=bZ w (.cells #[O U kd] 3)
 have hL:=ai.new w 3 #[O U kd]
 have hA:=h.then b1 b1.size
 have yG:=ht.then b1
 have ol:=G.ol
 have Bz:=(ar.bounds (G.tall i hi)).2
 have EI:=fN (bE kd) x.t x.o 0 G.oall
 change 0≤aW (bE kd) x.o∧aW (bE kd) x.o≤_ at EI
 have HT:Hid (rC (bM x.t[i].c) (bM (aW (bE kd) x.o))=bM x.t[i].c++⟨#[32,105,110,32]⟩++bM (aW (bE kd) x.o)++⟨#[32,111,117,116]⟩):=rfl
 rw [HT.out]
 obtain ⟨tr,ze⟩ : ∃ tr,x.t[i]=tr:=⟨_,rfl⟩
 obtain ⟨S,hS⟩ : ∃ S,aW (bE kd) x.o=S:=⟨_,rfl⟩
 rw [ze] at Bz
 rw [hS] at EI
 rw [ze,hS]
 go_enter Tryz.func70,Tryz.ntmps70
 go_wp2_with fail
 generalize w.alloc (.cells #[O U kd] 3)=W at b1 hL hA yG ⊢
 have cO:=fG (bE kd) 125 #[.pointer (some ⟨w.heap.size,0,none⟩)] Tryz.call125 x g W (fun o p=>sL o w.heap.size kd p.val (hL.below p.below hL.lt)) hA ol G.oall
 rw [hS] at cO
 refine (aX cO).mono ?_
 rintro e w1 ⟨rfl,q1,rfl⟩
 have zK:∀ q:aq W.heap.size W,q.val.cell? ⟨w.heap.size,0,none⟩=some (O U kd):=fun q=>(q.cell hL.lt).trans (hL.cell 0)
 obtain ⟨p0,p1,p2,p3,p4⟩:=hA.s
 obtain ⟨bt,ot,zI,_,AQ⟩:=hA.r.ts.el oM
 obtain ⟨t0,t1⟩:=AQ i hi
 simp only [zI] at p0
 have cA:=fun q:aq W.heap.size W=>br x g kd q.val (hA.at q)
 rw [hI] at cA
 rw [ze] at t1
 obtain ⟨AT,CG⟩:=Bz
 obtain ⟨Hs,Kx⟩:=EI
 have c1:=fun q:aq W.heap.size W=>dE tr.c q.val oM oM (yG.at q)
 have c2:=fun q:aq W.heap.size W=>dE S q.val oM oM (yG.at q)
 have z1:=cU AT (by omega:tr.c≤1000000000)
 have z2:=cU Hs (by omega:S≤1000000000)
 have HA:Hid (bM tr.c=⟨(Lib.itoa tr.c).toArray⟩):=rfl
 have HB:Hid (bM S=⟨(Lib.itoa S).toArray⟩):=rfl
 generalize (⟨(Lib.itoa tr.c).toArray⟩ : ByteArray)=SA at c1 z1 HA
 generalize (⟨(Lib.itoa S).toArray⟩ : ByteArray)=SB at c2 z2 HB
 have y8:(0:Int)≤(i:Int):=oM
 have Lm:(i:Int) < (x.t.length:Int):=oM
 clear AQ zI cO hS t0 HT
 go_wp2
 refine ba _ kZ kZ ?_
 repeat (any_goals (first | go_big_quiet_step ((first | (go_at_call 116; with_reducible refine aP nR (cA _)) | (go_at_call 69; with_reducible refine aP nR (c1 _)) | (go_at_call 69; with_reducible refine aP nR (c2 _)))) | (refine wpQuiet_step (fun K hK=>?_); go_simp; split <;> (refine hK _ ?_; clear hK K))))
 all_goals (refine wpQuiet_nil ?_; rintro _ ⟨q1,rfl⟩)
 all_goals go_wp2
 go_ret
 exact ⟨by rw [HA.out,HB.out]; rfl,av b1 q1.below⟩
set_option maxRecDepth 100000 in
theorem mF (x:aN) (kd:Int) (w:World) (h:aQ w w.heap.size x) (ht:jj w) :
  Calls xi 156 #[x.val,O U kd] w fun e w'=>e=.returned (.tuple #[xh (eH x kd),.bool (ap x && aS x.t kd)])∧Below w.heap.size w w':=by
 have b1:=bZ w (.cells #[F x.TA x.t.length x.tc,F x.OA x.o.length x.oc,O U x.gt,O U x.sd,O U x.ms] 40)
 have hA:=iy h 40
 have yG:=ht.then b1
 have cG:=fun W hW=>aZ x w.heap.size W hW
 have cT:=fun W hW=>br x w.heap.size kd W hW
 cases hg:ap x
 ·rw [hg] at cG
  have HN:=jZ (lX (x:=x) (kd:=kd) (by rw [hg]; rfl))
  clear hg
  rw [HN.out]
  go_enter Tryz.func156,Tryz.ntmps156
  go_wp2_with fail
  generalize w.alloc (.cells #[F x.TA x.t.length x.tc,F x.OA x.o.length x.oc,O U x.gt,O U x.sd,O U x.ms] 40)=W at b1 hA ⊢
  refine (cG _ hA).mono ?_
  rintro e w1 ⟨rfl,hb⟩
  go_wp2
  go_ret2
  exact ⟨rfl,av b1 hb⟩
 ·rw [hg] at cG
  have G:=bu.1 hg
  by_cases hI:0≤ay x.t kd
  ·obtain ⟨i,hi⟩:=gJ hI
   obtain ⟨xu,hk⟩:=ir hi
   have HY:=jZ (kM hg hi xu).2
   have HT:Hid (aS x.t kd=true):=by have:=(kM hg hi xu).1; rw [hg] at this; exact this
   have cX:=fun W hW ht=>ik x w.heap.size i kd W hW G hi xu ht
   rw [hi] at cT
   clear hg hI hi
   rw [HY.out,HT.out]
   generalize rC (bM x.t[i].c) (bM (aW (bE kd) x.o))=TX at cX ⊢
   go_enter Tryz.func156,Tryz.ntmps156
   go_wp2_with fail
   generalize w.alloc (.cells #[F x.TA x.t.length x.tc,F x.OA x.o.length x.oc,O U x.gt,O U x.sd,O U x.ms] 40)=W at b1 hA yG ⊢
   refine (aX (cG _ hA)).mono ?_
   rintro e w1 ⟨rfl,q1,rfl⟩
   go_wp2_with fail
   refine (aP nR (cT _ (hA.at q1))).mono ?_
   rintro e w2 ⟨rfl,q2,rfl⟩
   go_wp2_with fail
   refine (aP nR (cX _ (hA.at q2) (yG.at q2))).mono ?_
   rintro e w3 ⟨rfl,q3,rfl⟩
   go_wp2
   go_ret2
   exact ⟨rfl,b1.trans (q3.below.mono b1.size)⟩
  ·have HH:=jZ (jU hI)
   have HN:=jZ (lX (x:=x) (kd:=kd) (by rw [jU hI,Bool.and_false]))
   clear hg
   rw [HN.out,HH.out]
   generalize ay x.t kd=I at cT hI
   go_enter Tryz.func156,Tryz.ntmps156
   go_wp2_with fail
   generalize w.alloc (.cells #[F x.TA x.t.length x.tc,F x.OA x.o.length x.oc,O U x.gt,O U x.sd,O U x.ms] 40)=W at b1 hA ⊢
   refine (aX (cG _ hA)).mono ?_
   rintro e w1 ⟨rfl,q1,rfl⟩
   go_wp2_with fail
   refine (aP nR (cT _ (hA.at q1))).mono ?_
   rintro e w2 ⟨rfl,q2,rfl⟩
   go_wp2
   go_ret2
   exact ⟨rfl,b1.trans (q2.below.mono b1.size)⟩
end Go.Proofs.YtoeoimhemojdeaaGreatDoor
