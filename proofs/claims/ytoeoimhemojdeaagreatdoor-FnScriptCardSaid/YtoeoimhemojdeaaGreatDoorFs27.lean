/- Lemmas. -/
import Derived.Test.YtoeoimhemojdeaaGreatDoorFs21
import Derived.Test.YtoeoimhemojdeaaGreatDoorFs26

set_option linter.unusedVariables false
set_option linter.unusedSimpArgs false
set_option maxHeartbeats 8000000
open Go.Value renaming int → O, slice → F, string → wG
open Go.IntKind renaming i64 → U
open Go.Proofs.Tryz renaming prog → wH

namespace Go.Proofs.YtoeoimhemojdeaaGreatDoor
open Go.RowKit
def wt (t:aq):Prop:=Sm t.k∧Sm t.c
def wu (o:ae):Prop:=Sm o.k∧Sm o.p∧Sm o.c
def vJ (y:Oc):Prop:=(∀ t ∈ y.t,wt t)∧(∀ o ∈ y.o,wu o)
theorem nQ {y:Oc} (h:y.good=true):vJ y:=by
 have G:=br.1 (show ao (y.at none 0 none 0)=true from h)
 constructor
 ·intro t ht
  obtain ⟨j,hj,e⟩:=List.mem_iff_getElem.1 ht
  have b:(1≤t.k∧t.k≤99)∧0≤t.c∧t.c≤9999:=by rw [← e]; exact aq.bounds (G.tall j hj)
  exact ⟨⟨oM,oM⟩,⟨oM,oM⟩⟩
 ·intro o ho
  obtain ⟨j,hj,e⟩:=List.mem_iff_getElem.1 ho
  have b0:=ae.bounds (G.oall j hj)
  have k:1≤o.k∧o.k≤99:=by rw [← e]; exact eC G.tall b0.1
  have b:(1≤o.p∧o.p≤999)∧1≤o.c∧o.c≤9999:=by rw [← e]; exact b0.2
  exact ⟨⟨oM,oM⟩,⟨oM,oM⟩,⟨oM,oM⟩⟩
theorem vJ.addT {y:Oc} {g s m:Int} {t:aq} (h:vJ y) (ht:wt t):vJ ⟨y.t++[t],y.o,g,s,m⟩ :=
 ⟨fun u hu=>by rcases List.mem_append.1 hu with hu | hu; exact h.1 u hu; rw [List.mem_singleton.1 hu]; exact ht,h.2⟩
theorem vJ.addO {y:Oc} {g s m:Int} {o:ae} (h:vJ y) (ho:wu o):vJ ⟨y.t,y.o++[o],g,s,m⟩ :=
 ⟨h.1,fun u hu=>by rcases List.mem_append.1 hu with hu | hu; exact h.2 u hu; rw [List.mem_singleton.1 hu]; exact ho⟩
theorem sc (y:Oc) (s:df):(cU (gq y s)).good=true:=by
 unfold gq
 split
 ·cases h:bj y s with
  | none=>rfl
  | some r=>exact lc h
 ·rfl
theorem t6 (y:Oc) (s:df) {v:Value} (W:World) (h:uQ W y v):Calls wH 76 #[v,s.val] W (uR W (cU (gq y s)) (gq y s).isSome):=by
 obtain ⟨X,rfl,hc,hr,wX⟩:=h
 rw [← hc]
 exact (jx X s W hr wX).mono fun _ _ h=>h.r
theorem iX {W:World} {B k n c:Nat} {e:TypeId} {A:Option Addr} {xs:List Value} (h:W.ownsRow B e k (F A n c) n xs) (b:Nat) (hb:A.map (·.block)=some b):B≤b:=by
 cases A with
 | none=>cases hb
 | some a=>exact (h.lt b hb).1
theorem cm {W W' : World} {B k n g:Nat} {e:TypeId} {v:Value} {xs:List Value} (h:W.ownsRow B e k v n xs) (hg:W.grownBy W' (some g)) (hB:g < B):W'.ownsRow B e k v n xs :=
 h.kept hg (.inr (by intro e; have:=(h.lt g e).1; omega))
theorem pj {W:World} {B B' k k' n n' : Nat} {e e' : TypeId} {v v' : Value} {xs xs' : List Value} {b:Nat} (h:W.ownsRow B e k v n xs) (h' : W.ownsRow B' e' k' v' n' xs') (wT:e ≠ e') (hb:v.ownBlock=some b) (hb' : v'.ownBlock=some b):False:=by
 obtain ⟨_,h2 | ⟨b1,c,cur,hv,hB,hh,hr⟩⟩:=h
 ·rw [h2.1] at hb; cases hb
 ·obtain ⟨_,h2' | ⟨b2,c',cur',hv',NT,hh',hr'⟩⟩:=h'
  ·rw [h2'.1] at hb'; cases hb'
  ·rw [hv] at hb; rw [hv'] at hb'
   injection hb with hb; injection hb' with hb'
   simp only at hb hb'
   subst hb; subst hb'
   rw [hh] at hh'
   injection hh' with hh'; injection hh' with _ h3; exact wT h3
theorem fh.grown {W W' : World} {B g:Nat} {y:Oc} {v:Value} (h:fh W B y v) (hg:W.grownBy W' (some g)) (hB:g < B):fh W' B y v:=by
 obtain ⟨TA,tc,OA,oc,e,h1,h2⟩:=h
 exact ⟨TA,tc,OA,oc,e,cm h1 hg hB,cm h2 hg hB⟩
theorem lH.grown {W W' : World} {B g h:Nat} {y:Oc} (hI:lH W B h y) (hg:W.grownBy W' (some g)) (hB:g < B) (wT:g ≠ h):lH W' B h y:=by
 obtain ⟨TA,tc,OA,oc,P⟩:=hI
 exact ⟨TA,tc,OA,oc,P.lies.kept hg (by intro e; injection e with e; exact wT e.symm),P.hg,cm P.t hg hB,cm P.o hg hB⟩
theorem kB {w W wx:World} {g:Nat} {A:Option Addr} {bs:List UInt8} {cap m K n:Nat} {R:List bX} {L:Nat→Bool} {B k n' : Nat} {e:TypeId} {v:Value} {xs:List Value} (h:Dr w W g A bs cap m K n [g] R L wx) (ho:W.ownsRow B e k v n' xs) (hB:g < B):wx.ownsRow B e k v n' xs :=
 h.owns ho fun b hb hm=>by simp only [List.mem_singleton] at hm; have:=(ho.lt b hb).1; omega
theorem mV {w W wx:World} {g:Nat} {A:Option Addr} {bs:List UInt8} {cap m K n B h:Nat} {R:List bX} {L:Nat→Bool} {y:Oc} {TA OA:Option Addr} {tc oc:Nat} (hC:Dr w W g A bs cap m K n [g] R L wx) (P:aE W B h (F TA y.t.length tc) (F OA y.o.length oc) y) (hB:g < B):aQ wx wx.heap.size (y.at TA tc OA oc) :=
 ⟨aw (kB hC P.t hB),aw (kB hC P.o hB)⟩
structure vK (w W wx:World) (g:Nat) (A:Option Addr) (bs:List UInt8) (cap m g3:Nat) (y:Oc):Prop where
 env:eZ w wx g A bs cap m
 out:ai wx W.heap.size 40 [F none 0 0,F none 0 0,O U 0,O U 0,O U 0]
 own:lH wx W.heap.size g3 y
 gr:W.grownBy wx (some g)
 l:W.heap.size < g3
 lt:g < W.heap.size
theorem vK.mono {w W wx:World} {g:Nat} {A:Option Addr} {bs:List UInt8} {cap m m' g3:Nat} {y:Oc} (h:vK w W wx g A bs cap m g3 y) (hm:m≤m'):vK w W wx g A bs cap m' g3 y:={ h with env:=h.env.mono hm }
set_option maxRecDepth 100000 in
theorem qU (g:Nat) (A:Option Addr) (bs:List UInt8) (cap m:Nat) (w W:World) (hm:m≤700000000) (E0:eZ w W g A bs cap m) :
  Calls wH 108 #[.pointer (some ⟨g,0,none⟩)] W fun e w'=>∃ (y:Oc) (v:Value),e=.returned v∧fh w' W.heap.size y v∧(y.t.length≤20∧y.o.length≤20)∧vJ y∧eZ w w' g A bs cap (m+100000)∧W.grownBy w' (some g):=by
 have hB:=E0.lt
 have hwW:=E0.gr.size
 have L2:=ai.new W 40 #[F none 0 0,F none 0 0,O U 0,O U 0,O U 0]
 have E2:=E0.alloc (.cells #[F none 0 0,F none 0 0,O U 0,O U 0,O U 0] 40)
 have G2:W.grownBy (W.alloc (.cells #[F none 0 0,F none 0 0,O U 0,O U 0,O U 0] 40)) (some g):=World.grownBy_alloc _ _ _
 have xQ:(W.alloc (.cells #[F none 0 0,F none 0 0,O U 0,O U 0,O U 0] 40)).heap.size=W.heap.size+1:=sP
 go_enter Tryz.func108,Tryz.ntmps108
 go_upto_region 1 with fail
 generalize (W.alloc (.cells #[F none 0 0,F none 0 0,O U 0,O U 0,O U 0] 40))=W1 at L2 E2 G2 xQ ⊢
 have HS:=jZ xQ
 have Mu:=jZ E0
 clear xQ E0
 go_cut [3] (fun s3 wx=>∃ g3:Nat,s3=.pointer (some ⟨g3,0,none⟩)∧vK w W wx g A bs cap m g3 Oc.zero)
 case first =>
  go_wp2_with fail
  go_meet
  case rel =>
   have Mx:=World.ownsRow_lit (base:=W.heap.size) (e:=104) (size:=2) W1 #[] 0 (by have:=HS.out; omega) dD rfl
   have KY:=World.ownsRow_lit (base:=W.heap.size) (e:=147) (size:=3) (W1.alloc (.cells #[] 104)) #[] 0 (by have:=HS.out; simp; omega) dD rfl
   have hz:(W1.alloc (.cells #[] 104)).heap.size=W1.heap.size+1:=sP
   have Eu:((W1.alloc (.cells #[] 104)).alloc (.cells #[] 147)).heap.size=W1.heap.size+1+1:=sP
   rw [hz] at KY
   refine ⟨_,rfl,((E2.alloc _).alloc _).alloc _,((L2.alloc _).alloc _).alloc _,⟨some ⟨W1.heap.size,0,none⟩,0,some ⟨W1.heap.size+1,0,none⟩,0, ?_, ?_,(Mx.alloc _).alloc _,KY.alloc _⟩,di (di (di G2 _) _) _, ?_,hB⟩
   ·have:=ai.new ((W1.alloc (.cells #[] 104)).alloc (.cells #[] 147)) 40 #[F (some ⟨W1.heap.size,0,none⟩) 0 0,F (some ⟨W1.heap.size+1,0,none⟩) 0 0,O U 0,O U 0,O U 0]
    rw [Eu] at this
    exact this
   ·have:=HS.out; omega
   ·have:=HS.out; omega
 case rest =>
  clear L2 E2 G2 HS
  obtain ⟨g3,rfl,St⟩:=hcut
  have l1:=St.l
  go_wp2_with fail
  refine (dF St.env 36 oM oM).mono ?_
  rintro e W3 ⟨n,rfl,hn,E3,gr3⟩
  have St3:vK w W W3 g A bs cap (m+10+2000 * (36 - n)) g3 Oc.zero:=⟨E3.mono oM,St.out.kept gr3 iE,St.own.grown gr3 hB oM,aA St.gr gr3,l1,hB⟩
  have yW:=jZ St3
  clear St3 St E3 gr3
  go_wp2_with fail
  go_loopw [4,5,6] (fun i _ _ wr=>∃ (k:Nat) (y:Oc),k≤36∧i=O U k∧Hid (y.good=true)∧Hid (vK w W wr g A bs cap (m+10+2000 * (36 - k)) g3 y)) (fun i _ _ _=>(intOf i).toNat)
  case atStart=>exact ⟨n,Oc.zero,oM,rfl,rfl,yW⟩
  case round =>
   clear yW
   obtain ⟨k,y,hk,rfl,HG,HQ⟩:=hrel
   by_cases wQ:0 < k
   ·have hgB:=hB
    have St:=HQ.out
    have hy:=kA HG.out
    obtain ⟨TA,tc,OA,oc,P⟩:=St.own
    have K3:=P.lies
    have nx3:g3 ∉ [g]:=by simp only [List.mem_singleton]; omega
    have hlt' : (0:Int) < k:=oM
    have Ia:=St.gr.size
    have hg3r:=K3.lt
    have Gx:y.t.length≤100000∧y.o.length≤100000:=by
     have G:=br.1 (show ao (y.at none 0 none 0)=true from HG.out)
     exact ⟨jT G.tl oM,jT G.ol oM⟩
    obtain ⟨Jr,Js⟩:=Gx
    clear hy
    have Bb:=jZ (nQ HG.out)
    go_wp2_with fail
    refine al (Dr w wr g A bs cap (m+10+2000 * (36 - k)) 100 11 [g] []) (fun i w1 w2=>i ∉ [9]→w1.grownBy w2 (some g)) kZ kZ kZ (Dr.start St.env sP) ?_
    simp only [ax,Act.put,sA,gs0,gs1,Nat.zero_add,Nat.reduceAdd]
    refine aa _ (vd0D5 K3 nx3) ?_
    refine aa _ vd0 ?_
    refine aa _ (vd0D5 K3 nx3) ?_
    refine sm0 [] (fun v _=>∃ s:df,v=.agg #[O U s.kind,O U s.stamp,O U s.person,O U s.value]) (fun vs L9 w9 wK wI hB K9 wJ=>?_) ?_
    next =>
     have d1:=fe hB 1
     have d2:=fe hB 2
     simp only [d1,d2] at wJ ⊢
     simp only [Act.put,sA,gs0,gs1] at wJ
     go_simp
     refine (jQ (y.at TA tc OA oc) Bb.out g A bs cap _ w w9 (by have:=wI.cnt; omega) (by show y.t.length≤_; omega) (by show y.o.length≤_; omega) wI.env (mV wI P hgB) (fun b e=>by have:=iX P.t b e; omega) (fun b e=>by have:=iX P.o b e; omega)).mono ?_
     rintro en w8 ⟨s8,rfl,_,yz,xu⟩
     exact wJ _ _ _ rfl ⟨_,rfl⟩ (wI.call wK.self dD yz oM xu sP) (fun _=>xu)
    refine sm [9] (fun v w9=>∃ (u:Value) (z:Oc) (b:Bool),v=.tuple #[u,.bool b]∧fh w9 W.heap.size z u∧z.good=true) (fun vs L9 w9 wK wI hB K9 wJ=>?_) ?_
    next =>
     have d0:=fe hB 0
     simp only [d0] at wJ ⊢
     simp only [Act.put,sA,gs0,gs1] at wJ
     obtain ⟨s3,e3⟩:=fs hB 3
     simp only [e3] at wJ ⊢
     go_simp
     have My:uQ w9 y (.agg #[F TA y.t.length tc,F OA y.o.length oc,O U y.gt,O U y.sd,O U y.ms]):=⟨y.at TA tc OA oc,rfl,rfl,mV wI P hgB,iK P.t⟩
     have hwS:W.heap.size≤w9.heap.size:=jT St.gr.size wI.size
     refine (t6 y s3 w9 My).mono ?_
     rintro en w8 ⟨v8,rfl,Ch,wL⟩
     exact wJ _ _ _ rfl ⟨v8,_,_,rfl,Ch.lower hwS,sc _ _⟩ (wI.below wK.self dD wL) (fun _=>cn wL _)
    refine pm0 [] 4 (fun u v _=>v=u∧∃ q b,u=.tuple #[q,.bool b]) (fun vs L9 w9 wK wI hB K9 wJ=>?_) ?_
    next =>
     obtain ⟨u5,z5,b5,e5,h5,_⟩:=fs hB 4
     simp only [e5] at wJ ⊢
     go_simp
     exact wJ _ _ _ rfl ⟨rfl,u5,b5,rfl⟩ (dS wK wI) gR
    refine sm [9] (fun v w9=>∃ z:Oc,fh w9 W.heap.size z v∧z.good=true) (fun vs L9 w9 wK wI hB K9 wJ=>?_) ?_
    next =>
     simp only [Act.put,sA,gs0,gs1] at wJ
     obtain ⟨q5,_⟩:=fs hB 5
     obtain ⟨u4,z4,b4,e4,h4,h4g⟩:=fs hB 4
     simp only [q5,e4] at wJ ⊢
     go_simp
     exact wJ _ _ _ rfl ⟨z4,h4,h4g⟩ (dS wK wI) gR
    refine sm0 [] (fun v _=>∃ b:Bool,v=.bool b) (fun vs L9 w9 wK wI hB K9 wJ=>?_) ?_
    next =>
     simp only [Act.put,sA,gs0,gs1] at wJ
     obtain ⟨q5,u4,b4,e4⟩:=fs hB 5
     simp only [q5,e4] at wJ ⊢
     go_simp
     exact wJ _ _ _ rfl ⟨_,rfl⟩ (dS wK wI) gR
    refine sm [9] (fun v w9=>∃ g9,v=.pointer (some ⟨g9,0,none⟩)∧wr.heap.size≤g9∧ai w9 g9 40 [F none 0 0,F none 0 0,O U 0,O U 0,O U 0]) (fun vs L9 w9 wK wI hB K9 wJ=>?_) ?_
    next =>
     simp only [Act.put,sA,gs0,gs1] at wJ
     go_simp
     exact wJ _ _ _ rfl ⟨_,rfl,wI.size,ai.new w9 40 #[F none 0 0,F none 0 0,O U 0,O U 0,O U 0]⟩ (wI.alloc wK.self dD _) (fun _=>World.grownBy_alloc _ _ _)
    refine pm [] 8 (fun u _ w9=>∃ (g9:Nat) (z:Oc),u=.pointer (some ⟨g9,0,none⟩)∧wr.heap.size≤g9∧lH w9 W.heap.size g9 z∧z.good=true) (fun vs L9 w9 wK wI hB K9 wJ=>?_) ?_
    next =>
     obtain ⟨g9,AH,ym,xx⟩:=fs hB 8
     obtain ⟨z,⟨TA,tc,OA,oc,e15,h1,h2⟩,Ih⟩:=fs hB 6
     simp only [AH,e15] at wJ ⊢
     obtain ⟨x0,x1,x2,x3,x4⟩:=cells5 xx
     obtain ⟨f0,f1,f2,f3,f4⟩:=frz5 xx
     have Jt:=jZ (fh.store h1 h2 xx (jT St.gr.size ym))
     have yA:=jZ (gw5 w9 g9 (F TA z.t.length tc) (F OA z.o.length oc) (O U z.gt) (O U z.sd) (O U z.ms))
     clear h1 h2 xx
     go_simp
     exact wJ _ undef _ rfl ⟨g9,z,rfl,ym,Jt.out,Ih⟩ (wI.wrote wK.self dD yA.out (fun b e=>by injection e with e; subst e; exact ⟨oM,oM,.inr ym⟩) (by intro p hp; cases hp)) nq
    refine sm0 [] (fun v _=>∃ b:Bool,v=.bool b) (fun vs L9 w9 wK wI hB K9 wJ=>?_) ?_
    next =>
     simp only [Act.put,sA,gs0,gs1] at wJ
     obtain ⟨b7,e7⟩:=fs hB 7
     simp only [e7] at wJ ⊢
     go_simp
     exact wJ _ _ _ rfl ⟨_,rfl⟩ (dS wK wI) gR
    refine ar fun vs Lq W5 wS yw hB=>?_
    obtain ⟨g5,z,yx,yy,P5,Ih⟩:=hB 9 _ rfl rfl dD
    obtain ⟨bb,ze⟩:=hB 10 _ rfl rfl dD
    simp only [yx,ze]
    clear hB wS yx ze
    have E5:=yw.le
    have Ii:=yw.lies St.out (by simp only [List.mem_singleton]; omega)
    have K35:=yw.lies K3 nx3
    have xN:=kB yw P.t hgB
    have x9:=kB yw P.o hgB
    have G5:=eh St.gr yw (by intro k hk wT; simp only [List.mem_singleton] at hk; omega) St.env
    obtain ⟨TA5,tc5,OA5,oc5,P5⟩:=P5
    have K5:=P5.lies
    have Mz:=jZ P5.t
    have AJ:=jZ P5.o
    have AZ:IntKind.i64.wrap ((k:Int) - 1)=(k:Int) - 1:=IntWalk.i64_in _ oM
    have Av:((k:Int) - 1)=((k - 1:Nat):Int):=oM
    have DA:=jZ Av
    clear yw P5 Av
    cases bb
    ·have Gy:vK w W W5 g A bs cap (m+10+2000 * (36 - (k - 1))) g3 y:=⟨E5.mono oM,Ii,⟨TA,tc,OA,oc,K35,P.hg,xN,x9⟩,G5,l1,hB⟩
     have Gz:=jZ Gy
     clear Gy E5 Ii K35 xN x9 G5 P K5 St K3 HQ
     go_wp2
     go_roundw
     case rel=>exact ⟨k - 1,y,oM,by rw [DA.out],HG,Gz⟩
     case measure=>simp [intOf]; omega
    ·have wY:W5.grownBy (dq W5 g3 (F TA5 z.t.length tc5) (F OA5 z.o.length oc5) (O U z.gt) (O U z.sd) (O U z.ms)) (some g3):=eG
     have Gy:vK w W (dq W5 g3 (F TA5 z.t.length tc5) (F OA5 z.o.length oc5) (O U z.gt) (O U z.sd) (O U z.ms)) g A bs cap (m+10+2000 * (36 - (k - 1))) g3 z:=⟨(E5.wrote wY oM oM).mono oM,mT Ii oM,fh.store Mz.out AJ.out K35 oM,bn G5 wY oM,l1,hB⟩
     have Gz:=jZ Gy
     have HZ:=jZ Ih
     obtain ⟨x0,x1,x2,x3,x4⟩:=cells5 K5
     obtain ⟨u0,u1,u2,u3,u4⟩:=cells5 K35
     obtain ⟨f0,f1,f2,f3,f4⟩:=frz5 K35
     clear Gy wY E5 Ii K35 xN x9 G5 P K5 St K3 HQ Ih
     go_wp2
     go_roundw
     case rel=>exact ⟨k - 1,z,oM,by rw [DA.out],HZ,Gz⟩
     case measure=>simp [intOf]; omega
   ·have St:=HQ.out
    have hgB:=hB
    have zZ:k=0:=oM
    subst zZ
    have Gx:y.t.length≤8∧y.o.length≤8:=by
     have G:=br.1 (show ao (y.at none 0 none 0)=true from HG.out)
     exact ⟨G.tl,G.ol⟩
    obtain ⟨Jr,Js⟩:=Gx
    have Bb:=jZ (nQ HG.out)
    go_wp2_with fail
    refine (dF St.env 32 oM oM).mono ?_
    rintro e W3 ⟨i,rfl,hi,E3,gr3⟩
    have St3:vK w W W3 g A bs cap (m+90000) g3 y:=⟨E3.mono oM,St.out.kept gr3 iE,St.own.grown gr3 hB oM,aA St.gr gr3,l1,hB⟩
    clear St HQ E3 gr3
    obtain ⟨TA,tc,OA,oc,P⟩:=St3.own
    have K3:=P.lies
    have Ia:=St3.gr.size
    have hg3r:=K3.lt
    have hi' : i=0 ∨ i=1 ∨ i=2 ∨ 3≤i:=oM
    rcases hi' with rfl | rfl | rfl | NU
    ·go_wp2_with fail
     refine al (Dr w W3 g A bs cap (m+90000) 2 8 [g,g3] [bX.lies 7 g3 40 [F TA y.t.length tc,F OA y.o.length oc,O U y.gt,O U y.sd,O U y.ms]]) (fun i w1 w2=>i ∉ [7]→w1.grownBy w2 (some g)) kZ kZ kZ (Dr.start St3.env (fun p hp=>by simp only [List.mem_singleton] at hp; subst hp; exact ⟨by intro e; injection e; omega,K3⟩)) ?_
     simp only [ax,Act.put,sA,gs0,gs1,Nat.zero_add,Nat.reduceAdd]
     refine aa _ vd0 ?_
     apply aa
     case h1 =>
      intro vs L9 w9 wK wI hB K9 wJ
      have d0:=fe hB 0
      simp only [d0] at wJ ⊢
      have q0:w9.cell? ⟨g3,2,none⟩=some (O U y.gt):=((wI.room (bX.lies 7 g3 40 [F TA y.t.length tc,F OA y.o.length oc,O U y.gt,O U y.sd,O U y.ms]) sP).2 (wK.open_ 7 kZ)).cell 2
      simp only [Act.put,sA,gs0,gs1] at wJ
      go_simp
      exact wJ _ _ rfl (dS wK wI) gR
     refine aa _ vd0 ?_
     refine af [7] (fun v w9=>∃ (b:Nat) (l:List Int),v=F (some ⟨b,0,none⟩) 2 2∧l.length=2∧ai w9 b 3 (bi l)∧b ≠ g) ?_ (fun vs L9 w9 wK wI hB K9 wJ=>?_) ?_
     next =>
      intro i9 xG hb9 ha9 v w1 w2 hv xj
      have hb:=xj (fun hm=>by
       simp only [mC,mN,oF] at hm hb9
       subst hm
       ·exact hb9 sP)
      obtain ⟨b,l,q1,q2,q3,q4⟩:=hv
      exact ⟨b,l,q1,q2,q3.kept hb (by intro e; injection e with e; exact q4 e),q4⟩
     next =>
      simp only [Act.put,sA,gs0,gs1] at wJ
      go_simp
      exact wJ _ _ _ rfl ⟨w9.heap.size,[1, -1],rfl,rfl,ai.new w9 3 _,by have:=wI.env.lt; omega⟩ (wI.alloc wK.self dD _) (fun _=>World.grownBy_alloc _ _ _)
     refine sm0 [] (fun v _=>∃ z:Int,v=O U z) (fun vs L9 w9 wK wI hB K9 wJ=>?_) ?_
     next =>
      have d2:=fe hB 2
      simp only [d2] at wJ ⊢
      simp only [Act.put,sA,gs0,gs1] at wJ
      obtain ⟨b3,l3,e3,el3,eL3,en3⟩:=fs hB 3
      simp only [e3] at wJ ⊢
      go_simp
      refine (rO wI.env b3 2 l3 el3 eL3 en3 oM oM (by have:=wI.cnt; omega)).mono ?_
      rintro en w8 ⟨x8,rfl,yz,xu⟩
      exact wJ _ _ _ rfl ⟨_,rfl⟩ (dC wK wI yz xu) (fun _=>xu)
     refine sm0 [] (fun v _=>∃ z:Int,v=O U z) (fun vs L9 w9 wK wI hB K9 wJ=>?_) ?_
     next =>
      have d1:=fe hB 1
      simp only [d1] at wJ ⊢
      simp only [Act.put,sA,gs0,gs1] at wJ
      obtain ⟨z4,e4⟩:=fs hB 4
      simp only [e4] at wJ ⊢
      go_simp
      exact wJ _ _ _ rfl ⟨_,rfl⟩ (dS wK wI) gR
     refine aa _ vd0 ?_
     refine sm [] (fun _ w9=>∃ z:Int,ai w9 g3 40 [F TA y.t.length tc,F OA y.o.length oc,O U z,O U y.sd,O U y.ms]) (fun vs L9 w9 wK wI hB K9 wJ=>?_) ?_
     next =>
      have d6:=fe hB 6
      simp only [d6] at wJ ⊢
      simp only [Act.put] at wJ
      obtain ⟨z5,e5⟩:=fs hB 5
      simp only [e5] at wJ ⊢
      have wS:ai w9 g3 40 [F TA y.t.length tc,F OA y.o.length oc,O U y.gt,O U y.sd,O U y.ms]:=(wI.room (bX.lies 7 g3 40 [F TA y.t.length tc,F OA y.o.length oc,O U y.gt,O U y.sd,O U y.ms]) sP).2 wK.self
      obtain ⟨y0,y1,y2,y3,y4⟩:=cells5 wS
      obtain ⟨f0,f1,f2,f3,f4⟩:=frz5 wS
      have xd:ai _ g3 40 [F TA y.t.length tc,F OA y.o.length oc,O U z5,O U y.sd,O U y.ms]:=(wS.set 2 (O U z5))
      have yA:=jZ (ab (g:=g3) (i:=2) (u:=O U z5) (World.grownBy.refl w9 (some g3)))
      have xo:=jZ xd
      clear xd wS
      go_simp
      exact wJ _ undef _ rfl ⟨z5,xo.out⟩ (wI.wrote wK.self dD yA.out (fun b e=>by injection e with e; subst e; exact ⟨oM,oM,.inl sP⟩) (by intro p hp e; simp only [mC,mN,oF] at hp; first | (subst hp; exact .inl rfl) | (rcases hp with rfl | rfl <;> first | exact .inl rfl | exact absurd (Option.some.inj e) oM))) nq
     refine ar fun vs Lq W5 wS yw hB=>?_
     obtain ⟨z,K5⟩:=hB 7 _ rfl rfl dD
     clear hB wS
     have xN:=yw.owns P.t (by intro b hb hm; simp only [mC,mN,oF] at hm; have:=(P.t.lt b hb).1; rcases hm with rfl | rfl; omega; exact bB P.t K3 cd hb.symm)
     have x9:=yw.owns P.o (by intro b hb hm; simp only [mC,mN,oF] at hm; have:=(P.o.lt b hb).1; rcases hm with rfl | rfl; omega; exact bB P.o K3 ci hb.symm)
     have L25:=yw.lies St3.out (by simp only [mC,mN,oF]; omega)
     have E5:=yw.le
     have G5:=eh St3.gr yw (by intro k hk wT; simp only [mC,mN,oF] at hk; omega) St3.env
     clear yw K3 P St3
     obtain ⟨k0,k1,k2,k3,k4⟩:=cells5 K5
     obtain ⟨z0,z1,z2,z3,z4⟩:=cells5 L25
     obtain ⟨f0,f1,f2,f3,f4⟩:=frz5 L25
     have wY:W5.grownBy (dq W5 W.heap.size (F TA y.t.length tc) (F OA y.o.length oc) (O U z) (O U y.sd) (O U y.ms)) (some W.heap.size):=eG
     obtain ⟨W8,xP⟩ : ∃ W8,(((((W5.setCell ⟨W.heap.size,0,none⟩ (F TA y.t.length tc)).setCell ⟨W.heap.size,1,none⟩ (F OA y.o.length oc)).setCell ⟨W.heap.size,2,none⟩ (O U z)).setCell ⟨W.heap.size,3,none⟩ (O U y.sd)).setCell ⟨W.heap.size,4,none⟩ (O U y.ms))=W8:=⟨_,rfl⟩
     have HT:W8.ownsRow W.heap.size 104 2 (F TA y.t.length tc) ((⟨y.t,y.o,z,y.sd,y.ms⟩ : Oc)).t.length (((⟨y.t,y.o,z,y.sd,y.ms⟩ : Oc)).t.flatMap aq.enc):=by rw [← xP]; exact aR (v0:=F TA y.t.length tc) (v1:=F OA y.o.length oc) (v2:=O U z) (v3:=O U y.sd) (v4:=O U y.ms) L25 xN cd
     have HO:W8.ownsRow W.heap.size 147 3 (F OA y.o.length oc) ((⟨y.t,y.o,z,y.sd,y.ms⟩ : Oc)).o.length (((⟨y.t,y.o,z,y.sd,y.ms⟩ : Oc)).o.flatMap ae.enc):=by rw [← xP]; exact aR (v0:=F TA y.t.length tc) (v1:=F OA y.o.length oc) (v2:=O U z) (v3:=O U y.sd) (v4:=O U y.ms) L25 x9 ci
     have LS:ai W8 W.heap.size 40 [F TA y.t.length tc,F OA y.o.length oc,O U z,O U y.sd,O U y.ms]:=by rw [← xP]; exact eD (v0:=F TA y.t.length tc) (v1:=F OA y.o.length oc) (v2:=O U z) (v3:=O U y.sd) (v4:=O U y.ms) L25
     have EE:eZ w W8 g A bs cap (m+90000+2 * 8):=by rw [← xP]; exact (E5.wrote wY oM hB).mono oM
     have GG:W.grownBy W8 (some g):=by rw [← xP]; exact bn G5 wY nR
     have CU:=jZ xP
     have Bp:=jZ LS
     have CW:=jZ HT
     have CX:=jZ HO
     clear xP LS HT HO wY L25 K5
     repeat (first | go_values | go_skip | go_guarded | go_step | go_upon | simp only [])
     rw [CU.out]
     have LS:=Bp.out
     obtain ⟨x0,x1,x2,x3,x4⟩:=cells5 LS
     refine bodyPost_ret (v:=.agg #[F TA y.t.length tc,F OA y.o.length oc,O U z,O U y.sd,O U y.ms]) (by simp [results,Tryz.results108,go_sem,x0,x1,x2,x3,x4]) rfl ?_
     exact ⟨(⟨y.t,y.o,z,y.sd,y.ms⟩ : Oc),_,rfl,⟨TA,tc,OA,oc,by first | rfl | simp,CW.out,CX.out⟩,⟨by first | omega | (simp only [List.length_append,List.length_cons,List.length_nil]; omega),by first | omega | (simp only [List.length_append,List.length_cons,List.length_nil]; omega)⟩,by first | exact Bb.out | exact Bb.out.addT xl | exact Bb.out.addO xl,EE.mono oM,GG⟩
    ·go_wp2_with fail
     obtain ⟨gT,hgT⟩ : ∃ gT,(Value.ownBlock (F TA y.t.length tc)).getD g=gT:=⟨_,rfl⟩
     have hF:=bB P.t K3 cd
     have CY:Hid (∀ p ∈ [bX.lies 9 g3 40 [F TA y.t.length tc,F OA y.o.length oc,O U y.gt,O U y.sd,O U y.ms],bX.row 7 W.heap.size 104 2 (F TA y.t.length tc) y.t.length (y.t.flatMap aq.enc)],p.blk ≠ some g∧p.P W3):=by
      intro p hp
      simp only [mC,mN,oF] at hp
      rcases hp with rfl | rfl
      ·exact ⟨by intro e; injection e; omega,K3⟩
      ·exact ⟨by intro e; have:=(P.t.lt _ e).1; omega,P.t⟩
     have CZ:Hid (∀ b,Value.ownBlock (F TA y.t.length tc)=some b→w.heap.size≤b∧g < b∧(b ∈ [g,g3,gT] ∨ W3.heap.size≤b)):=by
      intro b e
      have:=(P.t.lt b e).1
      refine ⟨oM,oM,.inl ?_⟩
      rw [e] at hgT
      simp only [Option.getD_some] at hgT
      simp [hgT]
     have DI:Hid (∀ p ∈ [bX.lies 9 g3 40 [F TA y.t.length tc,F OA y.o.length oc,O U y.gt,O U y.sd,O U y.ms],bX.row 7 W.heap.size 104 2 (F TA y.t.length tc) y.t.length (y.t.flatMap aq.enc)],p.blk=Value.ownBlock (F TA y.t.length tc)→p.op=7 ∨ Value.ownBlock (F TA y.t.length tc)=none):=by
      intro p hp e
      simp only [mC,mN,oF] at hp
      rcases hp with rfl | rfl
      ·exact absurd e hF
      ·exact .inl rfl
     have GA:Hid (∀ p ∈ [bX.lies 9 g3 40 [F TA y.t.length tc,F OA y.o.length oc,O U y.gt,O U y.sd,O U y.ms],bX.row 7 W.heap.size 104 2 (F TA y.t.length tc) y.t.length (y.t.flatMap aq.enc)],p.blk=some g3→p.op=9 ∨ (some g3:Option Nat)=none):=by
      intro p hp e
      simp only [mC,mN,oF] at hp
      rcases hp with rfl | rfl
      ·exact .inl rfl
      ·exact absurd e.symm hF
     have Ci:=jZ hgT
     have HF:=jZ hF
     clear hgT hF
     refine al (Dr w W3 g A bs cap (m+90000) 2 10 [g,g3,gT] [bX.lies 9 g3 40 [F TA y.t.length tc,F OA y.o.length oc,O U y.gt,O U y.sd,O U y.ms],bX.row 7 W.heap.size 104 2 (F TA y.t.length tc) y.t.length (y.t.flatMap aq.enc)]) (fun i w1 w2=>i ∉ [7,9]→w1.grownBy w2 (some g)) kZ kZ kZ (Dr.start St3.env CY.out) ?_
     simp only [ax,Act.put,sA,gs0,gs1,Nat.zero_add,Nat.reduceAdd]
     refine aa _ vd0 ?_
     apply aa
     case h1 =>
      intro vs L9 w9 wK wI hB K9 wJ
      have d0:=fe hB 0
      simp only [d0] at wJ ⊢
      have q0:w9.cell? ⟨g3,0,none⟩=some (F TA y.t.length tc):=((wI.room (bX.lies 9 g3 40 [F TA y.t.length tc,F OA y.o.length oc,O U y.gt,O U y.sd,O U y.ms]) sP).2 (wK.open_ 9 kZ)).cell 0
      simp only [Act.put,sA,gs0,gs1] at wJ
      go_simp
      exact wJ _ _ rfl (dS wK wI) gR
     refine aa _ vd0 ?_
     refine af [7,9] (fun v w9=>∃ (b:Nat) (l:List Int),v=F (some ⟨b,0,none⟩) 3 3∧l.length=3∧ai w9 b 3 (bi l)∧b ≠ g∧∀ z ∈ l,Sm z) ?_ (fun vs L9 w9 wK wI hB K9 wJ=>?_) ?_
     next =>
      intro i9 xG hb9 ha9 v w1 w2 hv xj
      have hb:=xj (fun hm=>by
       simp only [mC,mN,oF] at hm hb9
       rcases hm with rfl | rfl
       ·exact hb9 sP
       ·exact hb9 sP)
      obtain ⟨b,l,q1,q2,q3,q4,q5⟩:=hv
      exact ⟨b,l,q1,q2,q3.kept hb (by intro e; injection e with e; exact q4 e),q4,q5⟩
     next =>
      simp only [Act.put,sA,gs0,gs1] at wJ
      go_simp
      exact wJ _ _ _ rfl ⟨w9.heap.size,[0,1,99],rfl,rfl,ai.new w9 3 _,by have:=wI.env.lt; omega,by intro z hz; simp only [mC,mN,oF] at hz; rcases hz with rfl | rfl | rfl <;> (first | assumption | exact ⟨dD,dD⟩)⟩ (wI.alloc wK.self dD _) (fun _=>World.grownBy_alloc _ _ _)
     refine sm0 [] (fun v _=>∃ z:Int,v=O U z∧Sm z) (fun vs L9 w9 wK wI hB K9 wJ=>?_) ?_
     next =>
      have d2:=fe hB 2
      simp only [d2] at wJ ⊢
      simp only [Act.put,sA,gs0,gs1] at wJ
      obtain ⟨b3,l3,e3,el3,eL3,en3,eb3⟩:=fs hB 3
      simp only [e3] at wJ ⊢
      go_simp
      refine (dk wI.env b3 3 l3 el3 eL3 en3 oM oM (by have:=wI.cnt; omega)).mono ?_
      rintro en w8 ⟨x8,rfl,yI,yz,xu⟩
      exact wJ _ _ _ rfl ⟨_,rfl,eb3 _ yI⟩ (dC wK wI yz xu) (fun _=>xu)
     refine sm0 [] (fun v _=>∃ k c:Int,v=.agg #[O U k,O U c]∧Sm k∧Sm c) (fun vs L9 w9 wK wI hB K9 wJ=>?_) ?_
     next =>
      simp only [Act.put,sA,gs0,gs1] at wJ
      obtain ⟨z4,e4,zb4⟩:=fs hB 4
      simp only [e4] at wJ ⊢
      go_simp
      exact wJ _ _ _ rfl ⟨_,_,rfl,aD,aD⟩ (dS wK wI) gR
     refine af [7,9] (fun v w9=>∃ (b:Nat) (k c:Int),v=F (some ⟨b,0,none⟩) 1 1∧ai w9 b 104 [O U k,O U c]∧b ≠ g∧Sm k∧Sm c) ?_ (fun vs L9 w9 wK wI hB K9 wJ=>?_) ?_
     next =>
      intro i9 xG hb9 ha9 v w1 w2 hv xj
      have hb:=xj (fun hm=>by
       simp only [mC,mN,oF] at hm hb9
       rcases hm with rfl | rfl
       ·exact hb9 sP
       ·exact hb9 sP)
      obtain ⟨b,k,c,q1,q2,q3,q4⟩:=hv
      exact ⟨b,k,c,q1,q2.kept hb (by intro e; injection e with e; exact q3 e),q3,q4⟩
     next =>
      simp only [Act.put,sA,gs0,gs1] at wJ
      obtain ⟨k5 ,c5,e5,sk5,sc5⟩:=fs hB 5
      simp only [e5] at wJ ⊢
      go_simp
      exact wJ _ _ _ rfl ⟨w9.heap.size,_,_,rfl,ai.new w9 104 _,by have:=wI.env.lt; omega,sk5,sc5⟩ (wI.alloc wK.self dD _) (fun _=>World.grownBy_alloc _ _ _)
     refine sm [9] (fun v w9=>∃ (A' : Option Addr) (c' : Nat) (t:aq),v=F A' (y.t.length+1) c'∧w9.ownsRow W.heap.size 104 2 (F A' (y.t.length+1) c') (y.t.length+1) ((y.t.flatMap aq.enc)++t.enc)∧wt t) (fun vs L9 w9 wK wI hB K9 wJ=>?_) ?_
     next =>
      have d1:=fe hB 1
      simp only [d1] at wJ ⊢
      simp only [Act.put,sA,gs0,gs1] at wJ
      obtain ⟨b6,k6,c6,e6,eL6,eN6,sk6,sc6⟩:=fs hB 6
      simp only [e6] at wJ ⊢
      have ho:=(wI.room (bX.row 7 W.heap.size 104 2 (F TA y.t.length tc) y.t.length (y.t.flatMap aq.enc)) sP).2 wK.self
      refine jh rfl (.tmp 40) (.tmp 45) 37 rfl 104 _ 2 16 Tryz.underlying37 dR rfl oM oM W.heap.size _ y.t.length _ (by rfl) ho w9.heap.size (some ⟨b6,0,none⟩) 1 1 [O U k6,O U c6] (by rfl) (eL6.reads rfl oM) (by simp [Value.oneCell']) oM (jT St3.gr.size wI.size) ?_
      intro A' c' w' ho' hg' hb'
      exact wJ _ _ _ rfl ⟨A',c',⟨k6,c6⟩,rfl,ho',sk6,sc6⟩ (wI.wrote wK.self dD hg' CZ.out DI.out) nq
     refine aa _ vd0 ?_
     refine sm [] (fun _ w9=>∃ (A' : Option Addr) (c' : Nat) (t:aq),ai w9 g3 40 [(F A' (y.t.length+1) c'),F OA y.o.length oc,O U y.gt,O U y.sd,O U y.ms]∧w9.ownsRow W.heap.size 104 2 (F A' (y.t.length+1) c') (y.t.length+1) ((y.t.flatMap aq.enc)++t.enc)∧wt t) (fun vs L9 w9 wK wI hB K9 wJ=>?_) ?_
     next =>
      have d8:=fe hB 8
      simp only [d8] at wJ ⊢
      simp only [Act.put] at wJ
      obtain ⟨A',c',t,e7,ho,xl⟩:=fs hB 7
      have wS:ai w9 g3 40 [F TA y.t.length tc,F OA y.o.length oc,O U y.gt,O U y.sd,O U y.ms]:=(wI.room (bX.lies 9 g3 40 [F TA y.t.length tc,F OA y.o.length oc,O U y.gt,O U y.sd,O U y.ms]) sP).2 wK.self
      simp only [e7] at wJ ⊢
      obtain ⟨u0,u1,u2,u3,u4⟩:=cells5 wS
      obtain ⟨f0,f1,f2,f3,f4⟩:=frz5 wS
      have xo:=jZ (wS.set 0 (F A' (y.t.length+1) c'))
      have xi:=jZ (am ho wS cd 0 (F A' (y.t.length+1) c'))
      have yA:=jZ (ab (g:=g3) (i:=0) (u:=(F A' (y.t.length+1) c')) (World.grownBy.refl w9 (some g3)))
      clear wS ho
      go_simp
      exact wJ _ undef _ rfl ⟨A',c',t,xo.out,xi.out,xl⟩ (wI.wrote wK.self dD yA.out (fun b e=>by injection e with e; subst e; exact ⟨oM,oM,.inl sP⟩) GA.out) nq
     refine ar fun vs Lq W5 wS yw hB=>?_
     obtain ⟨A',c',t,K5,Ba,xl⟩:=hB 9 _ rfl rfl dD
     clear hB wS
     have GB:∀ b,Value.ownBlock (F OA y.o.length oc)=some b→b ∉ [g,g3,gT]:=by
      intro b hb hm
      have h1:=(P.o.lt b hb).1
      simp only [mC,mN,oF] at hm
      rcases hm with rfl | rfl | rfl
      ·omega
      ·exact bB P.o K3 ci hb.symm
      ·cases hq:Value.ownBlock (F TA y.t.length tc) with
       | none=>have:=Ci.out; rw [hq] at this; simp at this; omega
       | some q=>have h2:=Ci.out; rw [hq] at h2; simp at h2; subst h2; exact pj P.t P.o ne_to hq hb
     have x9:=yw.owns P.o GB
     have hgT2:gT=g ∨ W.heap.size≤gT:=by
      cases hq:Value.ownBlock (F TA y.t.length tc) with
      | none=>have:=Ci.out; rw [hq] at this; exact .inl this.symm
      | some q=>have h2:=Ci.out; rw [hq] at h2; have:=(P.t.lt q hq).1; simp at h2; exact .inr oM
     have hgT3:gT ≠ W.heap.size:=by
      cases hq:Value.ownBlock (F TA y.t.length tc) with
      | none=>have:=Ci.out; rw [hq] at this; simp at this; omega
      | some q=>intro e; have h2:=Ci.out; rw [hq] at h2; simp at h2; subst h2; exact bB P.t St3.out cd (by rw [hq,e])
     have L25:=yw.lies St3.out (by simp only [mC,mN,oF]; omega)
     have E5:=yw.le
     have G5:=eh St3.gr yw (by intro k hk wT; simp only [mC,mN,oF] at hk; omega) St3.env
     have xN:W5.ownsRow W.heap.size 104 2 (F A' (y.t++[t]).length c') (y.t++[t]).length ((y.t++[t]).flatMap aq.enc):=by simpa using Ba
     clear yw K3 P St3 Ba GB hgT2 hgT3 CY CZ DI GA Ci HF
     obtain ⟨k0,k1,k2,k3,k4⟩:=cells5 K5
     obtain ⟨z0,z1,z2,z3,z4⟩:=cells5 L25
     obtain ⟨f0,f1,f2,f3,f4⟩:=frz5 L25
     have wY:W5.grownBy (dq W5 W.heap.size ((F A' (y.t.length+1) c')) (F OA y.o.length oc) (O U y.gt) (O U y.sd) (O U y.ms)) (some W.heap.size):=eG
     obtain ⟨W8,xP⟩ : ∃ W8,(((((W5.setCell ⟨W.heap.size,0,none⟩ ((F A' (y.t.length+1) c'))).setCell ⟨W.heap.size,1,none⟩ (F OA y.o.length oc)).setCell ⟨W.heap.size,2,none⟩ (O U y.gt)).setCell ⟨W.heap.size,3,none⟩ (O U y.sd)).setCell ⟨W.heap.size,4,none⟩ (O U y.ms))=W8:=⟨_,rfl⟩
     have HT:W8.ownsRow W.heap.size 104 2 ((F A' (y.t++[t]).length c')) ((⟨y.t++[t],y.o,y.gt,y.sd,y.ms⟩ : Oc)).t.length (((⟨y.t++[t],y.o,y.gt,y.sd,y.ms⟩ : Oc)).t.flatMap aq.enc):=by rw [← xP]; exact aR (v0:=(F A' (y.t.length+1) c')) (v1:=F OA y.o.length oc) (v2:=O U y.gt) (v3:=O U y.sd) (v4:=O U y.ms) L25 xN cd
     have HO:W8.ownsRow W.heap.size 147 3 (F OA y.o.length oc) ((⟨y.t++[t],y.o,y.gt,y.sd,y.ms⟩ : Oc)).o.length (((⟨y.t++[t],y.o,y.gt,y.sd,y.ms⟩ : Oc)).o.flatMap ae.enc):=by rw [← xP]; exact aR (v0:=(F A' (y.t.length+1) c')) (v1:=F OA y.o.length oc) (v2:=O U y.gt) (v3:=O U y.sd) (v4:=O U y.ms) L25 x9 ci
     have LS:ai W8 W.heap.size 40 [(F A' (y.t.length+1) c'),F OA y.o.length oc,O U y.gt,O U y.sd,O U y.ms]:=by rw [← xP]; exact eD (v0:=(F A' (y.t.length+1) c')) (v1:=F OA y.o.length oc) (v2:=O U y.gt) (v3:=O U y.sd) (v4:=O U y.ms) L25
     have EE:eZ w W8 g A bs cap (m+90000+2 * 10):=by rw [← xP]; exact (E5.wrote wY oM hB).mono oM
     have GG:W.grownBy W8 (some g):=by rw [← xP]; exact bn G5 wY nR
     have CU:=jZ xP
     have Bp:=jZ LS
     have CW:=jZ HT
     have CX:=jZ HO
     clear xP LS HT HO wY L25 K5
     repeat (first | go_values | go_skip | go_guarded | go_step | go_upon | simp only [])
     rw [CU.out]
     have LS:=Bp.out
     obtain ⟨x0,x1,x2,x3,x4⟩:=cells5 LS
     refine bodyPost_ret (v:=.agg #[(F A' (y.t.length+1) c'),F OA y.o.length oc,O U y.gt,O U y.sd,O U y.ms]) (by simp [results,Tryz.results108,go_sem,x0,x1,x2,x3,x4]) rfl ?_
     exact ⟨(⟨y.t++[t],y.o,y.gt,y.sd,y.ms⟩ : Oc),_,rfl,⟨A',c',OA,oc,by first | rfl | simp,CW.out,CX.out⟩,⟨by first | omega | (simp only [List.length_append,List.length_cons,List.length_nil]; omega),by first | omega | (simp only [List.length_append,List.length_cons,List.length_nil]; omega)⟩,by first | exact Bb.out | exact Bb.out.addT xl | exact Bb.out.addO xl,EE.mono oM,GG⟩
    ·go_wp2_with fail
     obtain ⟨gT,hgT⟩ : ∃ gT,(Value.ownBlock (F OA y.o.length oc)).getD g=gT:=⟨_,rfl⟩
     have hF:=bB P.o K3 ci
     have CY:Hid (∀ p ∈ [bX.lies 9 g3 40 [F TA y.t.length tc,F OA y.o.length oc,O U y.gt,O U y.sd,O U y.ms],bX.row 7 W.heap.size 147 3 (F OA y.o.length oc) y.o.length (y.o.flatMap ae.enc)],p.blk ≠ some g∧p.P W3):=by
      intro p hp
      simp only [mC,mN,oF] at hp
      rcases hp with rfl | rfl
      ·exact ⟨by intro e; injection e; omega,K3⟩
      ·exact ⟨by intro e; have:=(P.o.lt _ e).1; omega,P.o⟩
     have CZ:Hid (∀ b,Value.ownBlock (F OA y.o.length oc)=some b→w.heap.size≤b∧g < b∧(b ∈ [g,g3,gT] ∨ W3.heap.size≤b)):=by
      intro b e
      have:=(P.o.lt b e).1
      refine ⟨oM,oM,.inl ?_⟩
      rw [e] at hgT
      simp only [Option.getD_some] at hgT
      simp [hgT]
     have DI:Hid (∀ p ∈ [bX.lies 9 g3 40 [F TA y.t.length tc,F OA y.o.length oc,O U y.gt,O U y.sd,O U y.ms],bX.row 7 W.heap.size 147 3 (F OA y.o.length oc) y.o.length (y.o.flatMap ae.enc)],p.blk=Value.ownBlock (F OA y.o.length oc)→p.op=7 ∨ Value.ownBlock (F OA y.o.length oc)=none):=by
      intro p hp e
      simp only [mC,mN,oF] at hp
      rcases hp with rfl | rfl
      ·exact absurd e hF
      ·exact .inl rfl
     have GA:Hid (∀ p ∈ [bX.lies 9 g3 40 [F TA y.t.length tc,F OA y.o.length oc,O U y.gt,O U y.sd,O U y.ms],bX.row 7 W.heap.size 147 3 (F OA y.o.length oc) y.o.length (y.o.flatMap ae.enc)],p.blk=some g3→p.op=9 ∨ (some g3:Option Nat)=none):=by
      intro p hp e
      simp only [mC,mN,oF] at hp
      rcases hp with rfl | rfl
      ·exact .inl rfl
      ·exact absurd e.symm hF
     have Ci:=jZ hgT
     have HF:=jZ hF
     clear hgT hF
     refine al (Dr w W3 g A bs cap (m+90000) 2 10 [g,g3,gT] [bX.lies 9 g3 40 [F TA y.t.length tc,F OA y.o.length oc,O U y.gt,O U y.sd,O U y.ms],bX.row 7 W.heap.size 147 3 (F OA y.o.length oc) y.o.length (y.o.flatMap ae.enc)]) (fun i w1 w2=>i ∉ [7,9]→w1.grownBy w2 (some g)) kZ kZ kZ (Dr.start St3.env CY.out) ?_
     simp only [ax,Act.put,sA,gs0,gs1,Nat.zero_add,Nat.reduceAdd]
     refine aa _ vd0 ?_
     apply aa
     case h1 =>
      intro vs L9 w9 wK wI hB K9 wJ
      have d0:=fe hB 0
      simp only [d0] at wJ ⊢
      have q0:w9.cell? ⟨g3,1,none⟩=some (F OA y.o.length oc):=((wI.room (bX.lies 9 g3 40 [F TA y.t.length tc,F OA y.o.length oc,O U y.gt,O U y.sd,O U y.ms]) sP).2 (wK.open_ 9 kZ)).cell 1
      simp only [Act.put,sA,gs0,gs1] at wJ
      go_simp
      exact wJ _ _ rfl (dS wK wI) gR
     refine aa _ vd0 ?_
     refine af [7,9] (fun v w9=>∃ (b:Nat) (l:List Int),v=F (some ⟨b,0,none⟩) 3 3∧l.length=3∧ai w9 b 3 (bi l)∧b ≠ g∧∀ z ∈ l,Sm z) ?_ (fun vs L9 w9 wK wI hB K9 wJ=>?_) ?_
     next =>
      intro i9 xG hb9 ha9 v w1 w2 hv xj
      have hb:=xj (fun hm=>by
       simp only [mC,mN,oF] at hm hb9
       rcases hm with rfl | rfl
       ·exact hb9 sP
       ·exact hb9 sP)
      obtain ⟨b,l,q1,q2,q3,q4,q5⟩:=hv
      exact ⟨b,l,q1,q2,q3.kept hb (by intro e; injection e with e; exact q4 e),q4,q5⟩
     next =>
      simp only [Act.put,sA,gs0,gs1] at wJ
      go_simp
      exact wJ _ _ _ rfl ⟨w9.heap.size,[0,1,99],rfl,rfl,ai.new w9 3 _,by have:=wI.env.lt; omega,by intro z hz; simp only [mC,mN,oF] at hz; rcases hz with rfl | rfl | rfl <;> (first | assumption | exact ⟨dD,dD⟩)⟩ (wI.alloc wK.self dD _) (fun _=>World.grownBy_alloc _ _ _)
     refine sm0 [] (fun v _=>∃ z:Int,v=O U z∧Sm z) (fun vs L9 w9 wK wI hB K9 wJ=>?_) ?_
     next =>
      have d2:=fe hB 2
      simp only [d2] at wJ ⊢
      simp only [Act.put,sA,gs0,gs1] at wJ
      obtain ⟨b3,l3,e3,el3,eL3,en3,eb3⟩:=fs hB 3
      simp only [e3] at wJ ⊢
      go_simp
      refine (dk wI.env b3 3 l3 el3 eL3 en3 oM oM (by have:=wI.cnt; omega)).mono ?_
      rintro en w8 ⟨x8,rfl,yI,yz,xu⟩
      exact wJ _ _ _ rfl ⟨_,rfl,eb3 _ yI⟩ (dC wK wI yz xu) (fun _=>xu)
     refine sm0 [] (fun v _=>∃ k p c:Int,v=.agg #[O U k,O U p,O U c]∧Sm k∧Sm p∧Sm c) (fun vs L9 w9 wK wI hB K9 wJ=>?_) ?_
     next =>
      simp only [Act.put,sA,gs0,gs1] at wJ
      obtain ⟨z4,e4,zb4⟩:=fs hB 4
      simp only [e4] at wJ ⊢
      go_simp
      exact wJ _ _ _ rfl ⟨_,_,_,rfl,aD,aD,aD⟩ (dS wK wI) gR
     refine af [7,9] (fun v w9=>∃ (b:Nat) (k p c:Int),v=F (some ⟨b,0,none⟩) 1 1∧ai w9 b 147 [O U k,O U p,O U c]∧b ≠ g∧Sm k∧Sm p∧Sm c) ?_ (fun vs L9 w9 wK wI hB K9 wJ=>?_) ?_
     next =>
      intro i9 xG hb9 ha9 v w1 w2 hv xj
      have hb:=xj (fun hm=>by
       simp only [mC,mN,oF] at hm hb9
       rcases hm with rfl | rfl
       ·exact hb9 sP
       ·exact hb9 sP)
      obtain ⟨b,k,p,c,q1,q2,q3,q4⟩:=hv
      exact ⟨b,k,p,c,q1,q2.kept hb (by intro e; injection e with e; exact q3 e),q3,q4⟩
     next =>
      simp only [Act.put,sA,gs0,gs1] at wJ
      obtain ⟨k5 ,p5 ,c5,e5,sk5,sp5,sc5⟩:=fs hB 5
      simp only [e5] at wJ ⊢
      go_simp
      exact wJ _ _ _ rfl ⟨w9.heap.size,_,_,_,rfl,ai.new w9 147 _,by have:=wI.env.lt; omega,sk5,sp5,sc5⟩ (wI.alloc wK.self dD _) (fun _=>World.grownBy_alloc _ _ _)
     refine sm [9] (fun v w9=>∃ (A' : Option Addr) (c' : Nat) (t:ae),v=F A' (y.o.length+1) c'∧w9.ownsRow W.heap.size 147 3 (F A' (y.o.length+1) c') (y.o.length+1) ((y.o.flatMap ae.enc)++t.enc)∧wu t) (fun vs L9 w9 wK wI hB K9 wJ=>?_) ?_
     next =>
      have d1:=fe hB 1
      simp only [d1] at wJ ⊢
      simp only [Act.put,sA,gs0,gs1] at wJ
      obtain ⟨b6,k6,p6,c6,e6,eL6,eN6,sk6,sp6,sc6⟩:=fs hB 6
      simp only [e6] at wJ ⊢
      have ho:=(wI.room (bX.row 7 W.heap.size 147 3 (F OA y.o.length oc) y.o.length (y.o.flatMap ae.enc)) sP).2 wK.self
      refine jh rfl (.tmp 51) (.tmp 56) 38 rfl 147 _ 3 24 Tryz.underlying38 ex rfl oM oM W.heap.size _ y.o.length _ (by rfl) ho w9.heap.size (some ⟨b6,0,none⟩) 1 1 [O U k6,O U p6,O U c6] (by rfl) (eL6.reads rfl oM) (by simp [Value.oneCell']) oM (jT St3.gr.size wI.size) ?_
      intro A' c' w' ho' hg' hb'
      exact wJ _ _ _ rfl ⟨A',c',⟨k6,p6,c6⟩,rfl,ho',sk6,sp6,sc6⟩ (wI.wrote wK.self dD hg' CZ.out DI.out) nq
     refine aa _ vd0 ?_
     refine sm [] (fun _ w9=>∃ (A' : Option Addr) (c' : Nat) (t:ae),ai w9 g3 40 [F TA y.t.length tc,(F A' (y.o.length+1) c'),O U y.gt,O U y.sd,O U y.ms]∧w9.ownsRow W.heap.size 147 3 (F A' (y.o.length+1) c') (y.o.length+1) ((y.o.flatMap ae.enc)++t.enc)∧wu t) (fun vs L9 w9 wK wI hB K9 wJ=>?_) ?_
     next =>
      have d8:=fe hB 8
      simp only [d8] at wJ ⊢
      simp only [Act.put] at wJ
      obtain ⟨A',c',t,e7,ho,xl⟩:=fs hB 7
      have wS:ai w9 g3 40 [F TA y.t.length tc,F OA y.o.length oc,O U y.gt,O U y.sd,O U y.ms]:=(wI.room (bX.lies 9 g3 40 [F TA y.t.length tc,F OA y.o.length oc,O U y.gt,O U y.sd,O U y.ms]) sP).2 wK.self
      simp only [e7] at wJ ⊢
      obtain ⟨u0,u1,u2,u3,u4⟩:=cells5 wS
      obtain ⟨f0,f1,f2,f3,f4⟩:=frz5 wS
      have xo:=jZ (wS.set 1 (F A' (y.o.length+1) c'))
      have xi:=jZ (am ho wS ci 1 (F A' (y.o.length+1) c'))
      have yA:=jZ (ab (g:=g3) (i:=1) (u:=(F A' (y.o.length+1) c')) (World.grownBy.refl w9 (some g3)))
      clear wS ho
      go_simp
      exact wJ _ undef _ rfl ⟨A',c',t,xo.out,xi.out,xl⟩ (wI.wrote wK.self dD yA.out (fun b e=>by injection e with e; subst e; exact ⟨oM,oM,.inl sP⟩) GA.out) nq
     refine ar fun vs Lq W5 wS yw hB=>?_
     obtain ⟨A',c',t,K5,Ba,xl⟩:=hB 9 _ rfl rfl dD
     clear hB wS
     have GB:∀ b,Value.ownBlock (F TA y.t.length tc)=some b→b ∉ [g,g3,gT]:=by
      intro b hb hm
      have h1:=(P.t.lt b hb).1
      simp only [mC,mN,oF] at hm
      rcases hm with rfl | rfl | rfl
      ·omega
      ·exact bB P.t K3 cd hb.symm
      ·cases hq:Value.ownBlock (F OA y.o.length oc) with
       | none=>have:=Ci.out; rw [hq] at this; simp at this; omega
       | some q=>have h2:=Ci.out; rw [hq] at h2; simp at h2; subst h2; exact pj P.o P.t uM hq hb
     have xN:=yw.owns P.t GB
     have hgT3:gT ≠ W.heap.size∧(gT=g ∨ W.heap.size≤gT):=by
      cases hq:Value.ownBlock (F OA y.o.length oc) with
      | none=>have:=Ci.out; rw [hq] at this; simp at this; exact ⟨oM,.inl this.symm⟩
      | some q =>
       have h2:=Ci.out; rw [hq] at h2; simp at h2; subst h2
       exact ⟨by intro e; exact bB P.o St3.out ci (by rw [hq,e]),.inr (P.o.lt q hq).1⟩
     have L25:=yw.lies St3.out (by simp only [mC,mN,oF]; omega)
     have E5:=yw.le
     have G5:=eh St3.gr yw (by intro k hk wT; simp only [mC,mN,oF] at hk; omega) St3.env
     have x9:W5.ownsRow W.heap.size 147 3 (F A' (y.o++[t]).length c') (y.o++[t]).length ((y.o++[t]).flatMap ae.enc):=by simpa using Ba
     obtain ⟨z,hz⟩ : ∃ z,IntKind.i64.wrap (y.gt+1)=z:=⟨_,rfl⟩
     have yS:W5.grownBy (W5.setCell ⟨g3,2,none⟩ (O U z)) (some g3):=ab jG
     have K6:=K5.set 2 (O U z)
     simp only [List.set_cons_zero,List.set_cons_succ] at K6
     have KZ:=am xN K5 cd 2 (O U z)
     have La:=am x9 K5 ci 2 (O U z)
     have L26:=L25.other (p:=⟨g3,2,none⟩) (show W.heap.size ≠ g3 by omega) (O U z)
     have E6:=E5.wrote yS oM oM
     have G6:=bn G5 yS oM
     obtain ⟨q0,q1,q2,q3,q4⟩:=cells5 K5
     obtain ⟨qf0,qf1,qf2,qf3,qf4⟩:=frz5 K5
     obtain ⟨W6,Bn⟩ : ∃ W6,W5.setCell ⟨g3,2,none⟩ (O U z)=W6:=⟨_,rfl⟩
     rw [Bn] at K6 KZ La L26 E6 G6
     clear yw K3 P St3 Ba GB hgT3 CY CZ DI GA Ci HF xN x9 L25 E5 G5 yS K5
     obtain ⟨k0,k1,k2,k3,k4⟩:=cells5 K6
     obtain ⟨z0,z1,z2,z3,z4⟩:=cells5 L26
     obtain ⟨f0,f1,f2,f3,f4⟩:=frz5 L26
     have wY:W6.grownBy (dq W6 W.heap.size (F TA y.t.length tc) ((F A' (y.o.length+1) c')) (O U z) (O U y.sd) (O U y.ms)) (some W.heap.size):=eG
     obtain ⟨W8,xP⟩ : ∃ W8,(((((W6.setCell ⟨W.heap.size,0,none⟩ (F TA y.t.length tc)).setCell ⟨W.heap.size,1,none⟩ ((F A' (y.o.length+1) c'))).setCell ⟨W.heap.size,2,none⟩ (O U z)).setCell ⟨W.heap.size,3,none⟩ (O U y.sd)).setCell ⟨W.heap.size,4,none⟩ (O U y.ms))=W8:=⟨_,rfl⟩
     have HT:W8.ownsRow W.heap.size 104 2 (F TA y.t.length tc) ((⟨y.t,y.o++[t],z,y.sd,y.ms⟩ : Oc)).t.length (((⟨y.t,y.o++[t],z,y.sd,y.ms⟩ : Oc)).t.flatMap aq.enc):=by rw [← xP]; exact aR (v0:=F TA y.t.length tc) (v1:=(F A' (y.o.length+1) c')) (v2:=O U z) (v3:=O U y.sd) (v4:=O U y.ms) L26 KZ cd
     have HO:W8.ownsRow W.heap.size 147 3 ((F A' (y.o++[t]).length c')) ((⟨y.t,y.o++[t],z,y.sd,y.ms⟩ : Oc)).o.length (((⟨y.t,y.o++[t],z,y.sd,y.ms⟩ : Oc)).o.flatMap ae.enc):=by rw [← xP]; exact aR (v0:=F TA y.t.length tc) (v1:=(F A' (y.o.length+1) c')) (v2:=O U z) (v3:=O U y.sd) (v4:=O U y.ms) L26 La ci
     have LS:ai W8 W.heap.size 40 [F TA y.t.length tc,(F A' (y.o.length+1) c'),O U z,O U y.sd,O U y.ms]:=by rw [← xP]; exact eD (v0:=F TA y.t.length tc) (v1:=(F A' (y.o.length+1) c')) (v2:=O U z) (v3:=O U y.sd) (v4:=O U y.ms) L26
     have EE:eZ w W8 g A bs cap (m+90000+2 * 10):=by rw [← xP]; exact (E6.wrote wY oM hB).mono oM
     have GG:W.grownBy W8 (some g):=by rw [← xP]; exact bn G6 wY nR
     have CU:=jZ xP
     have Bp:=jZ LS
     have CW:=jZ HT
     have CX:=jZ HO
     clear xP LS HT HO wY L26 K6
     repeat (first | (rw [Bn]; clear Bn) | go_values | go_skip | go_guarded | go_step | go_upon | simp only [])
     rw [CU.out]
     have LS:=Bp.out
     obtain ⟨x0,x1,x2,x3,x4⟩:=cells5 LS
     refine bodyPost_ret (v:=.agg #[F TA y.t.length tc,(F A' (y.o.length+1) c'),O U z,O U y.sd,O U y.ms]) (by simp [results,Tryz.results108,go_sem,x0,x1,x2,x3,x4]) rfl ?_
     exact ⟨(⟨y.t,y.o++[t],z,y.sd,y.ms⟩ : Oc),_,rfl,⟨TA,tc,A',c',by first | rfl | simp,CW.out,CX.out⟩,⟨by first | omega | (simp only [List.length_append,List.length_cons,List.length_nil]; omega),by first | omega | (simp only [List.length_append,List.length_cons,List.length_nil]; omega)⟩,by first | exact Bb.out | exact Bb.out.addT xl | exact Bb.out.addO xl,EE.mono oM,GG⟩
    ·have hf:∀ c:Int,0≤c→c≤2→(((i:Int)) == c)=false:=fun c h1 h2=>by rw [beq_eq_false_iff_ne]; omega
     have f00:=hf 0 oM oM
     have f01:=hf 1 oM oM
     have f02:=hf 2 oM oM
     clear hf
     have L25:=St3.out
     have E5:=St3.env
     have G5:=St3.gr
     have xN:=P.t
     have x9:=P.o
     clear P St3
     obtain ⟨k0,k1,k2,k3,k4⟩:=cells5 K3
     obtain ⟨z0,z1,z2,z3,z4⟩:=cells5 L25
     obtain ⟨f0,f1,f2,f3,f4⟩:=frz5 L25
     have wY:W3.grownBy (dq W3 W.heap.size (F TA y.t.length tc) (F OA y.o.length oc) (O U y.gt) (O U y.sd) (O U y.ms)) (some W.heap.size):=eG
     obtain ⟨W8,xP⟩ : ∃ W8,(((((W3.setCell ⟨W.heap.size,0,none⟩ (F TA y.t.length tc)).setCell ⟨W.heap.size,1,none⟩ (F OA y.o.length oc)).setCell ⟨W.heap.size,2,none⟩ (O U y.gt)).setCell ⟨W.heap.size,3,none⟩ (O U y.sd)).setCell ⟨W.heap.size,4,none⟩ (O U y.ms))=W8:=⟨_,rfl⟩
     have HT:W8.ownsRow W.heap.size 104 2 (F TA y.t.length tc) (y).t.length ((y).t.flatMap aq.enc):=by rw [← xP]; exact aR (v0:=F TA y.t.length tc) (v1:=F OA y.o.length oc) (v2:=O U y.gt) (v3:=O U y.sd) (v4:=O U y.ms) L25 xN cd
     have HO:W8.ownsRow W.heap.size 147 3 (F OA y.o.length oc) (y).o.length ((y).o.flatMap ae.enc):=by rw [← xP]; exact aR (v0:=F TA y.t.length tc) (v1:=F OA y.o.length oc) (v2:=O U y.gt) (v3:=O U y.sd) (v4:=O U y.ms) L25 x9 ci
     have LS:ai W8 W.heap.size 40 [F TA y.t.length tc,F OA y.o.length oc,O U y.gt,O U y.sd,O U y.ms]:=by rw [← xP]; exact eD (v0:=F TA y.t.length tc) (v1:=F OA y.o.length oc) (v2:=O U y.gt) (v3:=O U y.sd) (v4:=O U y.ms) L25
     have EE:eZ w W8 g A bs cap (m+90000):=by rw [← xP]; exact (E5.wrote wY oM hB).mono oM
     have GG:W.grownBy W8 (some g):=by rw [← xP]; exact bn G5 wY nR
     have CU:=jZ xP
     have Bp:=jZ LS
     have CW:=jZ HT
     have CX:=jZ HO
     clear xP LS HT HO wY L25 K3
     repeat (first | go_values | go_skip | go_guarded | go_step | go_upon | simp only [])
     rw [CU.out]
     have LS:=Bp.out
     obtain ⟨x0,x1,x2,x3,x4⟩:=cells5 LS
     refine bodyPost_ret (v:=.agg #[F TA y.t.length tc,F OA y.o.length oc,O U y.gt,O U y.sd,O U y.ms]) (by simp [results,Tryz.results108,go_sem,x0,x1,x2,x3,x4]) rfl ?_
     exact ⟨y,_,rfl,⟨TA,tc,OA,oc,by first | rfl | simp,CW.out,CX.out⟩,⟨by first | omega | (simp only [List.length_append,List.length_cons,List.length_nil]; omega),by first | omega | (simp only [List.length_append,List.length_cons,List.length_nil]; omega)⟩,by first | exact Bb.out | exact Bb.out.addT xl | exact Bb.out.addO xl,EE.mono oM,GG⟩
end Go.Proofs.YtoeoimhemojdeaaGreatDoor
