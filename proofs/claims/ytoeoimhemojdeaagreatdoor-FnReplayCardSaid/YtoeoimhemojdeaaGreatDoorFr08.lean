/- Lemmas. -/
import Derived.Test.YtoeoimhemojdeaaGreatDoorProg
import Derived.Lib.ItoaNum
import Derived.Lib.ItoaLen
import Derived.Lib.IndexLaws
import Derived.Lib.LastIndexLaws
import Derived.Lib.IndexMore
import Derived.Shelf.LaysM
import Derived.Shelf.LaysC
import Derived.Shelf.Strconv.Itoa3
import Derived.Shelf.Strconv.AtoiAll
import Derived.Shelf.Small.Wraps
import Derived.Shelf.Small.Strs
import Derived.Shelf.Strings.Search3
import Derived.Shelf.Strings.LastIndexAll
import Derived.Shelf.Strings.Prefix
import Derived.Shelf.Strings.Split
import Derived.Shelf.Slices.Turned
import Derived.WalkSmall
import Derived.Lib.AppendIntMem
import Derived.Test.YtoeoimhemojdeaaGreatDoorFr07

set_option linter.unusedVariables false
set_option linter.unusedSimpArgs false
set_option maxHeartbeats 8000000
open Go.Value renaming int → O, slice → F, string → xh
open Go.IntKind renaming i64 → U
open Go.Proofs.Tryz renaming prog → xi

namespace Go.Proofs.YtoeoimhemojdeaaGreatDoor
open Go.RowKit
def wW (t:ar):Prop:=Sm t.k∧Sm t.c
def wX (o:ae):Prop:=Sm o.k∧Sm o.p∧Sm o.c
def wh (y:Oc):Prop:=(∀ t ∈ y.t,wW t)∧(∀ o ∈ y.o,wX o)
theorem n9 {y:Oc} (h:y.good=true):wh y:=by
 have G:=bu.1 (show ap (y.at none 0 none 0)=true from h)
 constructor
 ·intro t ht
  obtain ⟨j,hj,e⟩:=List.mem_iff_getElem.1 ht
  have b:(1≤t.k∧t.k≤99)∧0≤t.c∧t.c≤9999:=by rw [← e]; exact ar.bounds (G.tall j hj)
  exact ⟨⟨oM,oM⟩,⟨oM,oM⟩⟩
 ·intro o ho
  obtain ⟨j,hj,e⟩:=List.mem_iff_getElem.1 ho
  have b0:=ae.bounds (G.oall j hj)
  have k:1≤o.k∧o.k≤99:=by rw [← e]; exact eC G.tall b0.1
  have b:(1≤o.p∧o.p≤999)∧1≤o.c∧o.c≤9999:=by rw [← e]; exact b0.2
  exact ⟨⟨oM,oM⟩,⟨oM,oM⟩,⟨oM,oM⟩⟩
theorem wh.addT {y:Oc} {g s m:Int} {t:ar} (h:wh y) (ht:wW t):wh ⟨y.t++[t],y.o,g,s,m⟩ :=
 ⟨fun u hu=>by rcases List.mem_append.1 hu with hu | hu; exact h.1 u hu; rw [List.mem_singleton.1 hu]; exact ht,h.2⟩
theorem wh.addO {y:Oc} {g s m:Int} {o:ae} (h:wh y) (ho:wX o):wh ⟨y.t,y.o++[o],g,s,m⟩ :=
 ⟨h.1,fun u hu=>by rcases List.mem_append.1 hu with hu | hu; exact h.2 u hu; rw [List.mem_singleton.1 hu]; exact ho⟩
theorem sr (y:Oc) (s:de):(cQ (gy y s)).good=true:=by
 unfold gy
 split
 ·cases h:bm y s with
  | none=>rfl
  | some r=>exact li h
 ·rfl
theorem us (y:Oc) (s:de) {v:Value} (W:World) (h:vn W y v):Calls xi 76 #[v,s.val] W (vp W (cQ (gy y s)) (gy y s).isSome):=by
 obtain ⟨X,rfl,hc,hr,xA⟩:=h
 rw [← hc]
 exact (jN X s W hr xA).mono fun _ _ h=>h.r
theorem hQ {W:World} {B k n c:Nat} {e:TypeId} {A:Option Addr} {xs:List Value} (h:W.ownsRow B e k (F A n c) n xs) (b:Nat) (hb:A.map (·.block)=some b):B≤b:=by
 cases A with
 | none=>cases hb
 | some a=>exact (h.lt b hb).1
theorem cj {W W' : World} {B k n g:Nat} {e:TypeId} {v:Value} {xs:List Value} (h:W.ownsRow B e k v n xs) (hg:W.grownBy W' (some g)) (hB:g < B):W'.ownsRow B e k v n xs :=
 h.kept hg (.inr (by intro e; have:=(h.lt g e).1; omega))
theorem py {W:World} {B B' k k' n n' : Nat} {e e' : TypeId} {v v' : Value} {xs xs' : List Value} {b:Nat} (h:W.ownsRow B e k v n xs) (h' : W.ownsRow B' e' k' v' n' xs') (xw:e ≠ e') (hb:v.ownBlock=some b) (hb' : v'.ownBlock=some b):False:=by
 obtain ⟨_,h2 | ⟨b1,c,cur,hv,hB,hh,hr⟩⟩:=h
 ·rw [h2.1] at hb; cases hb
 ·obtain ⟨_,h2' | ⟨b2,c',cur',hv',Oh,hh',hr'⟩⟩:=h'
  ·rw [h2'.1] at hb'; cases hb'
  ·rw [hv] at hb; rw [hv'] at hb'
   injection hb with hb; injection hb' with hb'
   simp only at hb hb'
   subst hb; subst hb'
   rw [hh] at hh'
   injection hh' with hh'; injection hh' with _ h3; exact xw h3
theorem fk.grown {W W' : World} {B g:Nat} {y:Oc} {v:Value} (h:fk W B y v) (hg:W.grownBy W' (some g)) (hB:g < B):fk W' B y v:=by
 obtain ⟨TA,tc,OA,oc,e,h1,h2⟩:=h
 exact ⟨TA,tc,OA,oc,e,cj h1 hg hB,cj h2 hg hB⟩
theorem lN.grown {W W' : World} {B g h:Nat} {y:Oc} (hI:lN W B h y) (hg:W.grownBy W' (some g)) (hB:g < B) (xw:g ≠ h):lN W' B h y:=by
 obtain ⟨TA,tc,OA,oc,P⟩:=hI
 exact ⟨TA,tc,OA,oc,P.lies.kept hg (by intro e; injection e with e; exact xw e.symm),P.hg,cj P.t hg hB,cj P.o hg hB⟩
theorem kF {w W wx:World} {g:Nat} {A:Option Addr} {bs:List UInt8} {cap m K n:Nat} {R:List bp} {L:Nat→Bool} {B k n' : Nat} {e:TypeId} {v:Value} {xs:List Value} (h:Dr w W g A bs cap m K n [g] R L wx) (ho:W.ownsRow B e k v n' xs) (hB:g < B):wx.ownsRow B e k v n' xs :=
 h.owns ho fun b hb hm=>by simp only [List.mem_singleton] at hm; have:=(ho.lt b hb).1; omega
theorem m6 {w W wx:World} {g:Nat} {A:Option Addr} {bs:List UInt8} {cap m K n B h:Nat} {R:List bp} {L:Nat→Bool} {y:Oc} {TA OA:Option Addr} {tc oc:Nat} (hC:Dr w W g A bs cap m K n [g] R L wx) (P:aC W B h (F TA y.t.length tc) (F OA y.o.length oc) y) (hB:g < B):aQ wx wx.heap.size (y.at TA tc OA oc) :=
 ⟨an (kF hC P.t hB),an (kF hC P.o hB)⟩
structure wi (w W wx:World) (g:Nat) (A:Option Addr) (bs:List UInt8) (cap m g3:Nat) (y:Oc):Prop where
 env:fb w wx g A bs cap m
 out:ai wx W.heap.size 40 [F none 0 0,F none 0 0,O U 0,O U 0,O U 0]
 own:lN wx W.heap.size g3 y
 gr:W.grownBy wx (some g)
 l:W.heap.size < g3
 lt:g < W.heap.size
theorem wi.mono {w W wx:World} {g:Nat} {A:Option Addr} {bs:List UInt8} {cap m m' g3:Nat} {y:Oc} (h:wi w W wx g A bs cap m g3 y) (hm:m≤m'):wi w W wx g A bs cap m' g3 y:={ h with env:=h.env.mono hm }
set_option maxRecDepth 100000 in
theorem ri (g:Nat) (A:Option Addr) (bs:List UInt8) (cap m:Nat) (w W:World) (hm:m≤700000000) (E0:fb w W g A bs cap m) :
  Calls xi 108 #[.pointer (some ⟨g,0,none⟩)] W fun e w'=>∃ (y:Oc) (v:Value),e=.returned v∧fk w' W.heap.size y v∧(y.t.length≤20∧y.o.length≤20)∧wh y∧fb w w' g A bs cap (m+100000)∧W.grownBy w' (some g):=by
 have hB:=E0.lt
 have hwW:=E0.gr.size
 have L2:=ai.new W 40 #[F none 0 0,F none 0 0,O U 0,O U 0,O U 0]
 have E2:=E0.alloc (.cells #[F none 0 0,F none 0 0,O U 0,O U 0,O U 0] 40)
 have G2:W.grownBy (W.alloc (.cells #[F none 0 0,F none 0 0,O U 0,O U 0,O U 0] 40)) (some g):=World.grownBy_alloc _ _ _
 have xY:(W.alloc (.cells #[F none 0 0,F none 0 0,O U 0,O U 0,O U 0] 40)).heap.size=W.heap.size+1:=sP
 go_enter Tryz.func108,Tryz.ntmps108
 go_upto_region 1 with fail
 generalize (W.alloc (.cells #[F none 0 0,F none 0 0,O U 0,O U 0,O U 0] 40))=W1 at L2 E2 G2 xY ⊢
 have HS:=jZ xY
 have MK:=jZ E0
 clear xY E0
 go_cut [3] (fun s3 wx=>∃ g3:Nat,s3=.pointer (some ⟨g3,0,none⟩)∧wi w W wx g A bs cap m g3 Oc.zero)
 case first =>
  go_wp2_with fail
  go_meet
  case rel =>
   have MN:=World.ownsRow_lit (base:=W.heap.size) (e:=104) (size:=2) W1 #[] 0 (by have:=HS.out; omega) dD rfl
   have Lw:=World.ownsRow_lit (base:=W.heap.size) (e:=147) (size:=3) (W1.alloc (.cells #[] 104)) #[] 0 (by have:=HS.out; simp; omega) dD rfl
   have hz:(W1.alloc (.cells #[] 104)).heap.size=W1.heap.size+1:=sP
   have Ga:((W1.alloc (.cells #[] 104)).alloc (.cells #[] 147)).heap.size=W1.heap.size+1+1:=sP
   rw [hz] at Lw
   refine ⟨_,rfl,((E2.alloc _).alloc _).alloc _,((L2.alloc _).alloc _).alloc _,⟨some ⟨W1.heap.size,0,none⟩,0,some ⟨W1.heap.size+1,0,none⟩,0, ?_, ?_,(MN.alloc _).alloc _,Lw.alloc _⟩,cr (cr (cr G2 _) _) _, ?_,hB⟩
   ·have:=ai.new ((W1.alloc (.cells #[] 104)).alloc (.cells #[] 147)) 40 #[F (some ⟨W1.heap.size,0,none⟩) 0 0,F (some ⟨W1.heap.size+1,0,none⟩) 0 0,O U 0,O U 0,O U 0]
    rw [Ga] at this
    exact this
   ·have:=HS.out; omega
   ·have:=HS.out; omega
 case rest =>
  clear L2 E2 G2 HS
  obtain ⟨g3,rfl,St⟩:=hcut
  have l1:=St.l
  go_wp2_with fail
  refine (dp St.env 36 oM oM).mono ?_
  rintro e W3 ⟨n,rfl,hn,E3,gr3⟩
  have St3:wi w W W3 g A bs cap (m+10+2000 * (36 - n)) g3 Oc.zero:=⟨E3.mono oM,St.out.kept gr3 iE,St.own.grown gr3 hB oM,aA St.gr gr3,l1,hB⟩
  have Ar:=jZ St3
  clear St3 St E3 gr3
  go_wp2_with fail
  go_loopw [4,5,6] (fun i _ _ wr=>∃ (k:Nat) (y:Oc),k≤36∧i=O U k∧Hid (y.good=true)∧Hid (wi w W wr g A bs cap (m+10+2000 * (36 - k)) g3 y)) (fun i _ _ _=>(intOf i).toNat)
  case atStart=>exact ⟨n,Oc.zero,oM,rfl,rfl,Ar⟩
  case round =>
   clear Ar
   obtain ⟨k,y,hk,rfl,HG,HQ⟩:=hrel
   by_cases xu:0 < k
   ·have hgB:=hB
    have St:=HQ.out
    have hy:=kE HG.out
    obtain ⟨TA,tc,OA,oc,P⟩:=St.own
    have K3:=P.lies
    have nx3:g3 ∉ [g]:=by simp only [List.mem_singleton]; omega
    have hlt' : (0:Int) < k:=oM
    have EH:=St.gr.size
    have hg3r:=K3.lt
    have Fm:y.t.length≤100000∧y.o.length≤100000:=by
     have G:=bu.1 (show ap (y.at none 0 none 0)=true from HG.out)
     exact ⟨jT G.tl oM,jT G.ol oM⟩
    obtain ⟨JV,JW⟩:=Fm
    clear hy
    have Bf:=jZ (n9 HG.out)
    go_wp2_with fail
    refine al (Dr w wr g A bs cap (m+10+2000 * (36 - k)) 100 11 [g] []) (fun i w1 w2=>i ∉ [9]→w1.grownBy w2 (some g)) kZ kZ kZ (Dr.start St.env sP) ?_
    simp only [ax,Act.put,sA,gs0,gs1,Nat.zero_add,Nat.reduceAdd]
    refine aa _ (vd0D5 K3 nx3) ?_
    refine aa _ vd0 ?_
    refine aa _ (vd0D5 K3 nx3) ?_
    refine sm0 [] (fun v _=>∃ s:de,v=.agg #[O U s.kind,O U s.stamp,O U s.person,O U s.value]) (fun vs L9 w9 xl xj hB K9 xk=>?_) ?_
    next =>
     have d1:=fe hB 1
     have d2:=fe hB 2
     simp only [d1,d2] at xk ⊢
     simp only [Act.put,sA,gs0,gs1] at xk
     go_simp
     refine (jY (y.at TA tc OA oc) Bf.out g A bs cap _ w w9 (by have:=xj.cnt; omega) (by show y.t.length≤_; omega) (by show y.o.length≤_; omega) xj.env (m6 xj P hgB) (fun b e=>by have:=hQ P.t b e; omega) (fun b e=>by have:=hQ P.o b e; omega)).mono ?_
     rintro en w8 ⟨s8,rfl,_,yN,xP⟩
     exact xk _ _ _ rfl ⟨_,rfl⟩ (xj.call xl.self dD yN oM xP sP) (fun _=>xP)
    refine sm [9] (fun v w9=>∃ (u:Value) (z:Oc) (b:Bool),v=.tuple #[u,.bool b]∧fk w9 W.heap.size z u∧z.good=true) (fun vs L9 w9 xl xj hB K9 xk=>?_) ?_
    next =>
     have d0:=fe hB 0
     simp only [d0] at xk ⊢
     simp only [Act.put,sA,gs0,gs1] at xk
     obtain ⟨s3,e3⟩:=fs hB 3
     simp only [e3] at xk ⊢
     go_simp
     have MO:vn w9 y (.agg #[F TA y.t.length tc,F OA y.o.length oc,O U y.gt,O U y.sd,O U y.ms]):=⟨y.at TA tc OA oc,rfl,rfl,m6 xj P hgB,iW P.t⟩
     have hwS:W.heap.size≤w9.heap.size:=jT St.gr.size xj.size
     refine (us y s3 w9 MO).mono ?_
     rintro en w8 ⟨v8,rfl,Bs,xm⟩
     exact xk _ _ _ rfl ⟨v8,_,_,rfl,Bs.lower hwS,sr _ _⟩ (xj.below xl.self dD xm) (fun _=>bJ xm _)
    refine pm0 [] 4 (fun u v _=>v=u∧∃ q b,u=.tuple #[q,.bool b]) (fun vs L9 w9 xl xj hB K9 xk=>?_) ?_
    next =>
     obtain ⟨u5,z5,b5,e5,h5,_⟩:=fs hB 4
     simp only [e5] at xk ⊢
     go_simp
     exact xk _ _ _ rfl ⟨rfl,u5,b5,rfl⟩ (dS xl xj) gR
    refine sm [9] (fun v w9=>∃ z:Oc,fk w9 W.heap.size z v∧z.good=true) (fun vs L9 w9 xl xj hB K9 xk=>?_) ?_
    next =>
     simp only [Act.put,sA,gs0,gs1] at xk
     obtain ⟨q5,_⟩:=fs hB 5
     obtain ⟨u4,z4,b4,e4,h4,h4g⟩:=fs hB 4
     simp only [q5,e4] at xk ⊢
     go_simp
     exact xk _ _ _ rfl ⟨z4,h4,h4g⟩ (dS xl xj) gR
    refine sm0 [] (fun v _=>∃ b:Bool,v=.bool b) (fun vs L9 w9 xl xj hB K9 xk=>?_) ?_
    next =>
     simp only [Act.put,sA,gs0,gs1] at xk
     obtain ⟨q5,u4,b4,e4⟩:=fs hB 5
     simp only [q5,e4] at xk ⊢
     go_simp
     exact xk _ _ _ rfl ⟨_,rfl⟩ (dS xl xj) gR
    refine sm [9] (fun v w9=>∃ g9,v=.pointer (some ⟨g9,0,none⟩)∧wr.heap.size≤g9∧ai w9 g9 40 [F none 0 0,F none 0 0,O U 0,O U 0,O U 0]) (fun vs L9 w9 xl xj hB K9 xk=>?_) ?_
    next =>
     simp only [Act.put,sA,gs0,gs1] at xk
     go_simp
     exact xk _ _ _ rfl ⟨_,rfl,xj.size,ai.new w9 40 #[F none 0 0,F none 0 0,O U 0,O U 0,O U 0]⟩ (xj.alloc xl.self dD _) (fun _=>World.grownBy_alloc _ _ _)
    refine pm [] 8 (fun u _ w9=>∃ (g9:Nat) (z:Oc),u=.pointer (some ⟨g9,0,none⟩)∧wr.heap.size≤g9∧lN w9 W.heap.size g9 z∧z.good=true) (fun vs L9 w9 xl xj hB K9 xk=>?_) ?_
    next =>
     obtain ⟨g9,BW,yY,xS⟩:=fs hB 8
     obtain ⟨z,⟨TA,tc,OA,oc,e15,h1,h2⟩,IS⟩:=fs hB 6
     simp only [BW,e15] at xk ⊢
     obtain ⟨x0,x1,x2,x3,x4⟩:=cells5 xS
     obtain ⟨f0,f1,f2,f3,f4⟩:=frz5 xS
     have Fo:=jZ (fk.store h1 h2 xS (jT St.gr.size yY))
     have yO:=jZ (gw5 w9 g9 (F TA z.t.length tc) (F OA z.o.length oc) (O U z.gt) (O U z.sd) (O U z.ms))
     clear h1 h2 xS
     go_simp
     exact xk _ undef _ rfl ⟨g9,z,rfl,yY,Fo.out,IS⟩ (xj.wrote xl.self dD yO.out (fun b e=>by injection e with e; subst e; exact ⟨oM,oM,.inr yY⟩) (by intro p hp; cases hp)) nq
    refine sm0 [] (fun v _=>∃ b:Bool,v=.bool b) (fun vs L9 w9 xl xj hB K9 xk=>?_) ?_
    next =>
     simp only [Act.put,sA,gs0,gs1] at xk
     obtain ⟨b7,e7⟩:=fs hB 7
     simp only [e7] at xk ⊢
     go_simp
     exact xk _ _ _ rfl ⟨_,rfl⟩ (dS xl xj) gR
    refine au fun vs Lq W5 xv yu hB=>?_
    obtain ⟨g5,z,Ab,y5,P5,IS⟩:=hB 9 _ rfl rfl dD
    obtain ⟨bb,yp⟩:=hB 10 _ rfl rfl dD
    simp only [Ab,yp]
    clear hB xv Ab yp
    have E5:=yu.le
    have IT:=yu.lies St.out (by simp only [List.mem_singleton]; omega)
    have K35:=yu.lies K3 nx3
    have yK:=kF yu P.t hgB
    have yL:=kF yu P.o hgB
    have G5:=dK St.gr yu (by intro k hk xw; simp only [List.mem_singleton] at hk; omega) St.env
    obtain ⟨TA5,tc5,OA5,oc5,P5⟩:=P5
    have K5:=P5.lies
    have MP:=jZ P5.t
    have AR:=jZ P5.o
    have Bm:IntKind.i64.wrap ((k:Int) - 1)=(k:Int) - 1:=IntWalk.i64_in _ oM
    have AA:((k:Int) - 1)=((k - 1:Nat):Int):=oM
    have CP:=jZ AA
    clear yu P5 AA
    cases bb
    ·have GW:wi w W W5 g A bs cap (m+10+2000 * (36 - (k - 1))) g3 y:=⟨E5.mono oM,IT,⟨TA,tc,OA,oc,K35,P.hg,yK,yL⟩,G5,l1,hB⟩
     have GX:=jZ GW
     clear GW E5 IT K35 yK yL G5 P K5 St K3 HQ
     go_wp2
     go_roundw
     case rel=>exact ⟨k - 1,y,oM,by rw [CP.out],HG,GX⟩
     case measure=>simp [intOf]; omega
    ·have xC:W5.grownBy (dr W5 g3 (F TA5 z.t.length tc5) (F OA5 z.o.length oc5) (O U z.gt) (O U z.sd) (O U z.ms)) (some g3):=eG
     have GW:wi w W (dr W5 g3 (F TA5 z.t.length tc5) (F OA5 z.o.length oc5) (O U z.gt) (O U z.sd) (O U z.ms)) g A bs cap (m+10+2000 * (36 - (k - 1))) g3 z:=⟨(E5.wrote xC oM oM).mono oM,m4 IT oM,fk.store MP.out AR.out K35 oM,bf G5 xC oM,l1,hB⟩
     have GX:=jZ GW
     have HZ:=jZ IS
     obtain ⟨x0,x1,x2,x3,x4⟩:=cells5 K5
     obtain ⟨u0,u1,u2,u3,u4⟩:=cells5 K35
     obtain ⟨f0,f1,f2,f3,f4⟩:=frz5 K35
     clear GW xC E5 IT K35 yK yL G5 P K5 St K3 HQ IS
     go_wp2
     go_roundw
     case rel=>exact ⟨k - 1,z,oM,by rw [CP.out],HZ,GX⟩
     case measure=>simp [intOf]; omega
   ·have St:=HQ.out
    have hgB:=hB
    have zK:k=0:=oM
    subst zK
    have Fm:y.t.length≤8∧y.o.length≤8:=by
     have G:=bu.1 (show ap (y.at none 0 none 0)=true from HG.out)
     exact ⟨G.tl,G.ol⟩
    obtain ⟨JV,JW⟩:=Fm
    have Bf:=jZ (n9 HG.out)
    go_wp2_with fail
    refine (dp St.env 32 oM oM).mono ?_
    rintro e W3 ⟨i,rfl,hi,E3,gr3⟩
    have St3:wi w W W3 g A bs cap (m+90000) g3 y:=⟨E3.mono oM,St.out.kept gr3 iE,St.own.grown gr3 hB oM,aA St.gr gr3,l1,hB⟩
    clear St HQ E3 gr3
    obtain ⟨TA,tc,OA,oc,P⟩:=St3.own
    have K3:=P.lies
    have EH:=St3.gr.size
    have hg3r:=K3.lt
    have hi' : i=0 ∨ i=1 ∨ i=2 ∨ 3≤i:=oM
    rcases hi' with rfl | rfl | rfl | Oi
    ·go_wp2_with fail
     refine al (Dr w W3 g A bs cap (m+90000) 2 8 [g,g3] [bp.lies 7 g3 40 [F TA y.t.length tc,F OA y.o.length oc,O U y.gt,O U y.sd,O U y.ms]]) (fun i w1 w2=>i ∉ [7]→w1.grownBy w2 (some g)) kZ kZ kZ (Dr.start St3.env (fun p hp=>by simp only [List.mem_singleton] at hp; subst hp; exact ⟨by intro e; injection e; omega,K3⟩)) ?_
     simp only [ax,Act.put,sA,gs0,gs1,Nat.zero_add,Nat.reduceAdd]
     refine aa _ vd0 ?_
     apply aa
     case h1 =>
      intro vs L9 w9 xl xj hB K9 xk
      have d0:=fe hB 0
      simp only [d0] at xk ⊢
      have q0:w9.cell? ⟨g3,2,none⟩=some (O U y.gt):=((xj.room (bp.lies 7 g3 40 [F TA y.t.length tc,F OA y.o.length oc,O U y.gt,O U y.sd,O U y.ms]) sP).2 (xl.open_ 7 kZ)).cell 2
      simp only [Act.put,sA,gs0,gs1] at xk
      go_simp
      exact xk _ _ rfl (dS xl xj) gR
     refine aa _ vd0 ?_
     refine af [7] (fun v w9=>∃ (b:Nat) (l:List Int),v=F (some ⟨b,0,none⟩) 2 2∧l.length=2∧ai w9 b 3 (bj l)∧b ≠ g) ?_ (fun vs L9 w9 xl xj hB K9 xk=>?_) ?_
     next =>
      intro i9 yg hb9 ha9 v w1 w2 hv xJ
      have hb:=xJ (fun hm=>by
       simp only [mC,mN,oF] at hm hb9
       subst hm
       ·exact hb9 sP)
      obtain ⟨b,l,q1,q2,q3,q4⟩:=hv
      exact ⟨b,l,q1,q2,q3.kept hb (by intro e; injection e with e; exact q4 e),q4⟩
     next =>
      simp only [Act.put,sA,gs0,gs1] at xk
      go_simp
      exact xk _ _ _ rfl ⟨w9.heap.size,[1, -1],rfl,rfl,ai.new w9 3 _,by have:=xj.env.lt; omega⟩ (xj.alloc xl.self dD _) (fun _=>World.grownBy_alloc _ _ _)
     refine sm0 [] (fun v _=>∃ z:Int,v=O U z) (fun vs L9 w9 xl xj hB K9 xk=>?_) ?_
     next =>
      have d2:=fe hB 2
      simp only [d2] at xk ⊢
      simp only [Act.put,sA,gs0,gs1] at xk
      obtain ⟨b3,l3,e3,el3,eL3,en3⟩:=fs hB 3
      simp only [e3] at xk ⊢
      go_simp
      refine (r5 xj.env b3 2 l3 el3 eL3 en3 oM oM (by have:=xj.cnt; omega)).mono ?_
      rintro en w8 ⟨x8,rfl,yN,xP⟩
      exact xk _ _ _ rfl ⟨_,rfl⟩ (dC xl xj yN xP) (fun _=>xP)
     refine sm0 [] (fun v _=>∃ z:Int,v=O U z) (fun vs L9 w9 xl xj hB K9 xk=>?_) ?_
     next =>
      have d1:=fe hB 1
      simp only [d1] at xk ⊢
      simp only [Act.put,sA,gs0,gs1] at xk
      obtain ⟨z4,e4⟩:=fs hB 4
      simp only [e4] at xk ⊢
      go_simp
      exact xk _ _ _ rfl ⟨_,rfl⟩ (dS xl xj) gR
     refine aa _ vd0 ?_
     refine sm [] (fun _ w9=>∃ z:Int,ai w9 g3 40 [F TA y.t.length tc,F OA y.o.length oc,O U z,O U y.sd,O U y.ms]) (fun vs L9 w9 xl xj hB K9 xk=>?_) ?_
     next =>
      have d6:=fe hB 6
      simp only [d6] at xk ⊢
      simp only [Act.put] at xk
      obtain ⟨z5,e5⟩:=fs hB 5
      simp only [e5] at xk ⊢
      have xv:ai w9 g3 40 [F TA y.t.length tc,F OA y.o.length oc,O U y.gt,O U y.sd,O U y.ms]:=(xj.room (bp.lies 7 g3 40 [F TA y.t.length tc,F OA y.o.length oc,O U y.gt,O U y.sd,O U y.ms]) sP).2 xl.self
      obtain ⟨y0,y1,y2,y3,y4⟩:=cells5 xv
      obtain ⟨f0,f1,f2,f3,f4⟩:=frz5 xv
      have xD:ai _ g3 40 [F TA y.t.length tc,F OA y.o.length oc,O U z5,O U y.sd,O U y.ms]:=(xv.set 2 (O U z5))
      have yO:=jZ (ab (g:=g3) (i:=2) (u:=O U z5) (World.grownBy.refl w9 (some g3)))
      have xO:=jZ xD
      clear xD xv
      go_simp
      exact xk _ undef _ rfl ⟨z5,xO.out⟩ (xj.wrote xl.self dD yO.out (fun b e=>by injection e with e; subst e; exact ⟨oM,oM,.inl sP⟩) (by intro p hp e; simp only [mC,mN,oF] at hp; first | (subst hp; exact .inl rfl) | (rcases hp with rfl | rfl <;> first | exact .inl rfl | exact absurd (Option.some.inj e) oM))) nq
     refine au fun vs Lq W5 xv yu hB=>?_
     obtain ⟨z,K5⟩:=hB 7 _ rfl rfl dD
     clear hB xv
     have yK:=yu.owns P.t (by intro b hb hm; simp only [mC,mN,oF] at hm; have:=(P.t.lt b hb).1; rcases hm with rfl | rfl; omega; exact bn P.t K3 cd hb.symm)
     have yL:=yu.owns P.o (by intro b hb hm; simp only [mC,mN,oF] at hm; have:=(P.o.lt b hb).1; rcases hm with rfl | rfl; omega; exact bn P.o K3 ch hb.symm)
     have L25:=yu.lies St3.out (by simp only [mC,mN,oF]; omega)
     have E5:=yu.le
     have G5:=dK St3.gr yu (by intro k hk xw; simp only [mC,mN,oF] at hk; omega) St3.env
     clear yu K3 P St3
     obtain ⟨k0,k1,k2,k3,k4⟩:=cells5 K5
     obtain ⟨z0,z1,z2,z3,z4⟩:=cells5 L25
     obtain ⟨f0,f1,f2,f3,f4⟩:=frz5 L25
     have xC:W5.grownBy (dr W5 W.heap.size (F TA y.t.length tc) (F OA y.o.length oc) (O U z) (O U y.sd) (O U y.ms)) (some W.heap.size):=eG
     obtain ⟨W8,yo⟩ : ∃ W8,(((((W5.setCell ⟨W.heap.size,0,none⟩ (F TA y.t.length tc)).setCell ⟨W.heap.size,1,none⟩ (F OA y.o.length oc)).setCell ⟨W.heap.size,2,none⟩ (O U z)).setCell ⟨W.heap.size,3,none⟩ (O U y.sd)).setCell ⟨W.heap.size,4,none⟩ (O U y.ms))=W8:=⟨_,rfl⟩
     have HT:W8.ownsRow W.heap.size 104 2 (F TA y.t.length tc) ((⟨y.t,y.o,z,y.sd,y.ms⟩ : Oc)).t.length (((⟨y.t,y.o,z,y.sd,y.ms⟩ : Oc)).t.flatMap ar.enc):=by rw [← yo]; exact aR (v0:=F TA y.t.length tc) (v1:=F OA y.o.length oc) (v2:=O U z) (v3:=O U y.sd) (v4:=O U y.ms) L25 yK cd
     have HO:W8.ownsRow W.heap.size 147 3 (F OA y.o.length oc) ((⟨y.t,y.o,z,y.sd,y.ms⟩ : Oc)).o.length (((⟨y.t,y.o,z,y.sd,y.ms⟩ : Oc)).o.flatMap ae.enc):=by rw [← yo]; exact aR (v0:=F TA y.t.length tc) (v1:=F OA y.o.length oc) (v2:=O U z) (v3:=O U y.sd) (v4:=O U y.ms) L25 yL ch
     have LS:ai W8 W.heap.size 40 [F TA y.t.length tc,F OA y.o.length oc,O U z,O U y.sd,O U y.ms]:=by rw [← yo]; exact eD (v0:=F TA y.t.length tc) (v1:=F OA y.o.length oc) (v2:=O U z) (v3:=O U y.sd) (v4:=O U y.ms) L25
     have EE:fb w W8 g A bs cap (m+90000+2 * 8):=by rw [← yo]; exact (E5.wrote xC oM hB).mono oM
     have GG:W.grownBy W8 (some g):=by rw [← yo]; exact bf G5 xC nR
     have Cr:=jZ yo
     have BV:=jZ LS
     have Dp:=jZ HT
     have Dq:=jZ HO
     clear yo LS HT HO xC L25 K5
     repeat (first | go_values | go_skip | go_guarded | go_step | go_upon | simp only [])
     rw [Cr.out]
     have LS:=BV.out
     obtain ⟨x0,x1,x2,x3,x4⟩:=cells5 LS
     refine bodyPost_ret (v:=.agg #[F TA y.t.length tc,F OA y.o.length oc,O U z,O U y.sd,O U y.ms]) (by simp [results,Tryz.results108,go_sem,x0,x1,x2,x3,x4]) rfl ?_
     exact ⟨(⟨y.t,y.o,z,y.sd,y.ms⟩ : Oc),_,rfl,⟨TA,tc,OA,oc,by first | rfl | simp,Dp.out,Dq.out⟩,⟨by first | omega | (simp only [List.length_append,List.length_cons,List.length_nil]; omega),by first | omega | (simp only [List.length_append,List.length_cons,List.length_nil]; omega)⟩,by first | exact Bf.out | exact Bf.out.addT xM | exact Bf.out.addO xM,EE.mono oM,GG⟩
    ·go_wp2_with fail
     obtain ⟨gT,hgT⟩ : ∃ gT,(Value.ownBlock (F TA y.t.length tc)).getD g=gT:=⟨_,rfl⟩
     have hF:=bn P.t K3 cd
     have Ac:Hid (∀ p ∈ [bp.lies 9 g3 40 [F TA y.t.length tc,F OA y.o.length oc,O U y.gt,O U y.sd,O U y.ms],bp.row 7 W.heap.size 104 2 (F TA y.t.length tc) y.t.length (y.t.flatMap ar.enc)],p.blk ≠ some g∧p.P W3):=by
      intro p hp
      simp only [mC,mN,oF] at hp
      rcases hp with rfl | rfl
      ·exact ⟨by intro e; injection e; omega,K3⟩
      ·exact ⟨by intro e; have:=(P.t.lt _ e).1; omega,P.t⟩
     have GY:Hid (∀ b,Value.ownBlock (F TA y.t.length tc)=some b→w.heap.size≤b∧g < b∧(b ∈ [g,g3,gT] ∨ W3.heap.size≤b)):=by
      intro b e
      have:=(P.t.lt b e).1
      refine ⟨oM,oM,.inl ?_⟩
      rw [e] at hgT
      simp only [Option.getD_some] at hgT
      simp [hgT]
     have BP:Hid (∀ p ∈ [bp.lies 9 g3 40 [F TA y.t.length tc,F OA y.o.length oc,O U y.gt,O U y.sd,O U y.ms],bp.row 7 W.heap.size 104 2 (F TA y.t.length tc) y.t.length (y.t.flatMap ar.enc)],p.blk=Value.ownBlock (F TA y.t.length tc)→p.op=7 ∨ Value.ownBlock (F TA y.t.length tc)=none):=by
      intro p hp e
      simp only [mC,mN,oF] at hp
      rcases hp with rfl | rfl
      ·exact absurd e hF
      ·exact .inl rfl
     have Ha:Hid (∀ p ∈ [bp.lies 9 g3 40 [F TA y.t.length tc,F OA y.o.length oc,O U y.gt,O U y.sd,O U y.ms],bp.row 7 W.heap.size 104 2 (F TA y.t.length tc) y.t.length (y.t.flatMap ar.enc)],p.blk=some g3→p.op=9 ∨ (some g3:Option Nat)=none):=by
      intro p hp e
      simp only [mC,mN,oF] at hp
      rcases hp with rfl | rfl
      ·exact .inl rfl
      ·exact absurd e.symm hF
     have CE:=jZ hgT
     have HF:=jZ hF
     clear hgT hF
     refine al (Dr w W3 g A bs cap (m+90000) 2 10 [g,g3,gT] [bp.lies 9 g3 40 [F TA y.t.length tc,F OA y.o.length oc,O U y.gt,O U y.sd,O U y.ms],bp.row 7 W.heap.size 104 2 (F TA y.t.length tc) y.t.length (y.t.flatMap ar.enc)]) (fun i w1 w2=>i ∉ [7,9]→w1.grownBy w2 (some g)) kZ kZ kZ (Dr.start St3.env Ac.out) ?_
     simp only [ax,Act.put,sA,gs0,gs1,Nat.zero_add,Nat.reduceAdd]
     refine aa _ vd0 ?_
     apply aa
     case h1 =>
      intro vs L9 w9 xl xj hB K9 xk
      have d0:=fe hB 0
      simp only [d0] at xk ⊢
      have q0:w9.cell? ⟨g3,0,none⟩=some (F TA y.t.length tc):=((xj.room (bp.lies 9 g3 40 [F TA y.t.length tc,F OA y.o.length oc,O U y.gt,O U y.sd,O U y.ms]) sP).2 (xl.open_ 9 kZ)).cell 0
      simp only [Act.put,sA,gs0,gs1] at xk
      go_simp
      exact xk _ _ rfl (dS xl xj) gR
     refine aa _ vd0 ?_
     refine af [7,9] (fun v w9=>∃ (b:Nat) (l:List Int),v=F (some ⟨b,0,none⟩) 3 3∧l.length=3∧ai w9 b 3 (bj l)∧b ≠ g∧∀ z ∈ l,Sm z) ?_ (fun vs L9 w9 xl xj hB K9 xk=>?_) ?_
     next =>
      intro i9 yg hb9 ha9 v w1 w2 hv xJ
      have hb:=xJ (fun hm=>by
       simp only [mC,mN,oF] at hm hb9
       rcases hm with rfl | rfl
       ·exact hb9 sP
       ·exact hb9 sP)
      obtain ⟨b,l,q1,q2,q3,q4,q5⟩:=hv
      exact ⟨b,l,q1,q2,q3.kept hb (by intro e; injection e with e; exact q4 e),q4,q5⟩
     next =>
      simp only [Act.put,sA,gs0,gs1] at xk
      go_simp
      exact xk _ _ _ rfl ⟨w9.heap.size,[0,1,99],rfl,rfl,ai.new w9 3 _,by have:=xj.env.lt; omega,by intro z hz; simp only [mC,mN,oF] at hz; rcases hz with rfl | rfl | rfl <;> (first | assumption | exact ⟨dD,dD⟩)⟩ (xj.alloc xl.self dD _) (fun _=>World.grownBy_alloc _ _ _)
     refine sm0 [] (fun v _=>∃ z:Int,v=O U z∧Sm z) (fun vs L9 w9 xl xj hB K9 xk=>?_) ?_
     next =>
      have d2:=fe hB 2
      simp only [d2] at xk ⊢
      simp only [Act.put,sA,gs0,gs1] at xk
      obtain ⟨b3,l3,e3,el3,eL3,en3,eb3⟩:=fs hB 3
      simp only [e3] at xk ⊢
      go_simp
      refine (di xj.env b3 3 l3 el3 eL3 en3 oM oM (by have:=xj.cnt; omega)).mono ?_
      rintro en w8 ⟨x8,rfl,zi,yN,xP⟩
      exact xk _ _ _ rfl ⟨_,rfl,eb3 _ zi⟩ (dC xl xj yN xP) (fun _=>xP)
     refine sm0 [] (fun v _=>∃ k c:Int,v=.agg #[O U k,O U c]∧Sm k∧Sm c) (fun vs L9 w9 xl xj hB K9 xk=>?_) ?_
     next =>
      simp only [Act.put,sA,gs0,gs1] at xk
      obtain ⟨z4,e4,zb4⟩:=fs hB 4
      simp only [e4] at xk ⊢
      go_simp
      exact xk _ _ _ rfl ⟨_,_,rfl,aD,aD⟩ (dS xl xj) gR
     refine af [7,9] (fun v w9=>∃ (b:Nat) (k c:Int),v=F (some ⟨b,0,none⟩) 1 1∧ai w9 b 104 [O U k,O U c]∧b ≠ g∧Sm k∧Sm c) ?_ (fun vs L9 w9 xl xj hB K9 xk=>?_) ?_
     next =>
      intro i9 yg hb9 ha9 v w1 w2 hv xJ
      have hb:=xJ (fun hm=>by
       simp only [mC,mN,oF] at hm hb9
       rcases hm with rfl | rfl
       ·exact hb9 sP
       ·exact hb9 sP)
      obtain ⟨b,k,c,q1,q2,q3,q4⟩:=hv
      exact ⟨b,k,c,q1,q2.kept hb (by intro e; injection e with e; exact q3 e),q3,q4⟩
     next =>
      simp only [Act.put,sA,gs0,gs1] at xk
      obtain ⟨k5 ,c5,e5,sk5,sc5⟩:=fs hB 5
      simp only [e5] at xk ⊢
      go_simp
      exact xk _ _ _ rfl ⟨w9.heap.size,_,_,rfl,ai.new w9 104 _,by have:=xj.env.lt; omega,sk5,sc5⟩ (xj.alloc xl.self dD _) (fun _=>World.grownBy_alloc _ _ _)
     refine sm [9] (fun v w9=>∃ (A' : Option Addr) (c' : Nat) (t:ar),v=F A' (y.t.length+1) c'∧w9.ownsRow W.heap.size 104 2 (F A' (y.t.length+1) c') (y.t.length+1) ((y.t.flatMap ar.enc)++t.enc)∧wW t) (fun vs L9 w9 xl xj hB K9 xk=>?_) ?_
     next =>
      have d1:=fe hB 1
      simp only [d1] at xk ⊢
      simp only [Act.put,sA,gs0,gs1] at xk
      obtain ⟨b6,k6,c6,e6,eL6,eN6,sk6,sc6⟩:=fs hB 6
      simp only [e6] at xk ⊢
      have ho:=(xj.room (bp.row 7 W.heap.size 104 2 (F TA y.t.length tc) y.t.length (y.t.flatMap ar.enc)) sP).2 xl.self
      refine jq rfl (.tmp 40) (.tmp 45) 37 rfl 104 _ 2 16 Tryz.underlying37 dO rfl oM oM W.heap.size _ y.t.length _ (by rfl) ho w9.heap.size (some ⟨b6,0,none⟩) 1 1 [O U k6,O U c6] (by rfl) (eL6.reads rfl oM) (by simp [Value.oneCell']) oM (jT St3.gr.size xj.size) ?_
      intro A' c' w' ho' hg' hb'
      exact xk _ _ _ rfl ⟨A',c',⟨k6,c6⟩,rfl,ho',sk6,sc6⟩ (xj.wrote xl.self dD hg' GY.out BP.out) nq
     refine aa _ vd0 ?_
     refine sm [] (fun _ w9=>∃ (A' : Option Addr) (c' : Nat) (t:ar),ai w9 g3 40 [(F A' (y.t.length+1) c'),F OA y.o.length oc,O U y.gt,O U y.sd,O U y.ms]∧w9.ownsRow W.heap.size 104 2 (F A' (y.t.length+1) c') (y.t.length+1) ((y.t.flatMap ar.enc)++t.enc)∧wW t) (fun vs L9 w9 xl xj hB K9 xk=>?_) ?_
     next =>
      have d8:=fe hB 8
      simp only [d8] at xk ⊢
      simp only [Act.put] at xk
      obtain ⟨A',c',t,e7,ho,xM⟩:=fs hB 7
      have xv:ai w9 g3 40 [F TA y.t.length tc,F OA y.o.length oc,O U y.gt,O U y.sd,O U y.ms]:=(xj.room (bp.lies 9 g3 40 [F TA y.t.length tc,F OA y.o.length oc,O U y.gt,O U y.sd,O U y.ms]) sP).2 xl.self
      simp only [e7] at xk ⊢
      obtain ⟨u0,u1,u2,u3,u4⟩:=cells5 xv
      obtain ⟨f0,f1,f2,f3,f4⟩:=frz5 xv
      have xO:=jZ (xv.set 0 (F A' (y.t.length+1) c'))
      have xI:=jZ (am ho xv cd 0 (F A' (y.t.length+1) c'))
      have yO:=jZ (ab (g:=g3) (i:=0) (u:=(F A' (y.t.length+1) c')) (World.grownBy.refl w9 (some g3)))
      clear xv ho
      go_simp
      exact xk _ undef _ rfl ⟨A',c',t,xO.out,xI.out,xM⟩ (xj.wrote xl.self dD yO.out (fun b e=>by injection e with e; subst e; exact ⟨oM,oM,.inl sP⟩) Ha.out) nq
     refine au fun vs Lq W5 xv yu hB=>?_
     obtain ⟨A',c',t,K5,BK,xM⟩:=hB 9 _ rfl rfl dD
     clear hB xv
     have En:∀ b,Value.ownBlock (F OA y.o.length oc)=some b→b ∉ [g,g3,gT]:=by
      intro b hb hm
      have h1:=(P.o.lt b hb).1
      simp only [mC,mN,oF] at hm
      rcases hm with rfl | rfl | rfl
      ·omega
      ·exact bn P.o K3 ch hb.symm
      ·cases hq:Value.ownBlock (F TA y.t.length tc) with
       | none=>have:=CE.out; rw [hq] at this; simp at this; omega
       | some q=>have h2:=CE.out; rw [hq] at h2; simp at h2; subst h2; exact py P.t P.o ne_to hq hb
     have yL:=yu.owns P.o En
     have hgT2:gT=g ∨ W.heap.size≤gT:=by
      cases hq:Value.ownBlock (F TA y.t.length tc) with
      | none=>have:=CE.out; rw [hq] at this; exact .inl this.symm
      | some q=>have h2:=CE.out; rw [hq] at h2; have:=(P.t.lt q hq).1; simp at h2; exact .inr oM
     have hgT3:gT ≠ W.heap.size:=by
      cases hq:Value.ownBlock (F TA y.t.length tc) with
      | none=>have:=CE.out; rw [hq] at this; simp at this; omega
      | some q=>intro e; have h2:=CE.out; rw [hq] at h2; simp at h2; subst h2; exact bn P.t St3.out cd (by rw [hq,e])
     have L25:=yu.lies St3.out (by simp only [mC,mN,oF]; omega)
     have E5:=yu.le
     have G5:=dK St3.gr yu (by intro k hk xw; simp only [mC,mN,oF] at hk; omega) St3.env
     have yK:W5.ownsRow W.heap.size 104 2 (F A' (y.t++[t]).length c') (y.t++[t]).length ((y.t++[t]).flatMap ar.enc):=by simpa using BK
     clear yu K3 P St3 BK En hgT2 hgT3 Ac GY BP Ha CE HF
     obtain ⟨k0,k1,k2,k3,k4⟩:=cells5 K5
     obtain ⟨z0,z1,z2,z3,z4⟩:=cells5 L25
     obtain ⟨f0,f1,f2,f3,f4⟩:=frz5 L25
     have xC:W5.grownBy (dr W5 W.heap.size ((F A' (y.t.length+1) c')) (F OA y.o.length oc) (O U y.gt) (O U y.sd) (O U y.ms)) (some W.heap.size):=eG
     obtain ⟨W8,yo⟩ : ∃ W8,(((((W5.setCell ⟨W.heap.size,0,none⟩ ((F A' (y.t.length+1) c'))).setCell ⟨W.heap.size,1,none⟩ (F OA y.o.length oc)).setCell ⟨W.heap.size,2,none⟩ (O U y.gt)).setCell ⟨W.heap.size,3,none⟩ (O U y.sd)).setCell ⟨W.heap.size,4,none⟩ (O U y.ms))=W8:=⟨_,rfl⟩
     have HT:W8.ownsRow W.heap.size 104 2 ((F A' (y.t++[t]).length c')) ((⟨y.t++[t],y.o,y.gt,y.sd,y.ms⟩ : Oc)).t.length (((⟨y.t++[t],y.o,y.gt,y.sd,y.ms⟩ : Oc)).t.flatMap ar.enc):=by rw [← yo]; exact aR (v0:=(F A' (y.t.length+1) c')) (v1:=F OA y.o.length oc) (v2:=O U y.gt) (v3:=O U y.sd) (v4:=O U y.ms) L25 yK cd
     have HO:W8.ownsRow W.heap.size 147 3 (F OA y.o.length oc) ((⟨y.t++[t],y.o,y.gt,y.sd,y.ms⟩ : Oc)).o.length (((⟨y.t++[t],y.o,y.gt,y.sd,y.ms⟩ : Oc)).o.flatMap ae.enc):=by rw [← yo]; exact aR (v0:=(F A' (y.t.length+1) c')) (v1:=F OA y.o.length oc) (v2:=O U y.gt) (v3:=O U y.sd) (v4:=O U y.ms) L25 yL ch
     have LS:ai W8 W.heap.size 40 [(F A' (y.t.length+1) c'),F OA y.o.length oc,O U y.gt,O U y.sd,O U y.ms]:=by rw [← yo]; exact eD (v0:=(F A' (y.t.length+1) c')) (v1:=F OA y.o.length oc) (v2:=O U y.gt) (v3:=O U y.sd) (v4:=O U y.ms) L25
     have EE:fb w W8 g A bs cap (m+90000+2 * 10):=by rw [← yo]; exact (E5.wrote xC oM hB).mono oM
     have GG:W.grownBy W8 (some g):=by rw [← yo]; exact bf G5 xC nR
     have Cr:=jZ yo
     have BV:=jZ LS
     have Dp:=jZ HT
     have Dq:=jZ HO
     clear yo LS HT HO xC L25 K5
     repeat (first | go_values | go_skip | go_guarded | go_step | go_upon | simp only [])
     rw [Cr.out]
     have LS:=BV.out
     obtain ⟨x0,x1,x2,x3,x4⟩:=cells5 LS
     refine bodyPost_ret (v:=.agg #[(F A' (y.t.length+1) c'),F OA y.o.length oc,O U y.gt,O U y.sd,O U y.ms]) (by simp [results,Tryz.results108,go_sem,x0,x1,x2,x3,x4]) rfl ?_
     exact ⟨(⟨y.t++[t],y.o,y.gt,y.sd,y.ms⟩ : Oc),_,rfl,⟨A',c',OA,oc,by first | rfl | simp,Dp.out,Dq.out⟩,⟨by first | omega | (simp only [List.length_append,List.length_cons,List.length_nil]; omega),by first | omega | (simp only [List.length_append,List.length_cons,List.length_nil]; omega)⟩,by first | exact Bf.out | exact Bf.out.addT xM | exact Bf.out.addO xM,EE.mono oM,GG⟩
    ·go_wp2_with fail
     obtain ⟨gT,hgT⟩ : ∃ gT,(Value.ownBlock (F OA y.o.length oc)).getD g=gT:=⟨_,rfl⟩
     have hF:=bn P.o K3 ch
     have Ac:Hid (∀ p ∈ [bp.lies 9 g3 40 [F TA y.t.length tc,F OA y.o.length oc,O U y.gt,O U y.sd,O U y.ms],bp.row 7 W.heap.size 147 3 (F OA y.o.length oc) y.o.length (y.o.flatMap ae.enc)],p.blk ≠ some g∧p.P W3):=by
      intro p hp
      simp only [mC,mN,oF] at hp
      rcases hp with rfl | rfl
      ·exact ⟨by intro e; injection e; omega,K3⟩
      ·exact ⟨by intro e; have:=(P.o.lt _ e).1; omega,P.o⟩
     have GY:Hid (∀ b,Value.ownBlock (F OA y.o.length oc)=some b→w.heap.size≤b∧g < b∧(b ∈ [g,g3,gT] ∨ W3.heap.size≤b)):=by
      intro b e
      have:=(P.o.lt b e).1
      refine ⟨oM,oM,.inl ?_⟩
      rw [e] at hgT
      simp only [Option.getD_some] at hgT
      simp [hgT]
     have BP:Hid (∀ p ∈ [bp.lies 9 g3 40 [F TA y.t.length tc,F OA y.o.length oc,O U y.gt,O U y.sd,O U y.ms],bp.row 7 W.heap.size 147 3 (F OA y.o.length oc) y.o.length (y.o.flatMap ae.enc)],p.blk=Value.ownBlock (F OA y.o.length oc)→p.op=7 ∨ Value.ownBlock (F OA y.o.length oc)=none):=by
      intro p hp e
      simp only [mC,mN,oF] at hp
      rcases hp with rfl | rfl
      ·exact absurd e hF
      ·exact .inl rfl
     have Ha:Hid (∀ p ∈ [bp.lies 9 g3 40 [F TA y.t.length tc,F OA y.o.length oc,O U y.gt,O U y.sd,O U y.ms],bp.row 7 W.heap.size 147 3 (F OA y.o.length oc) y.o.length (y.o.flatMap ae.enc)],p.blk=some g3→p.op=9 ∨ (some g3:Option Nat)=none):=by
      intro p hp e
      simp only [mC,mN,oF] at hp
      rcases hp with rfl | rfl
      ·exact .inl rfl
      ·exact absurd e.symm hF
     have CE:=jZ hgT
     have HF:=jZ hF
     clear hgT hF
     refine al (Dr w W3 g A bs cap (m+90000) 2 10 [g,g3,gT] [bp.lies 9 g3 40 [F TA y.t.length tc,F OA y.o.length oc,O U y.gt,O U y.sd,O U y.ms],bp.row 7 W.heap.size 147 3 (F OA y.o.length oc) y.o.length (y.o.flatMap ae.enc)]) (fun i w1 w2=>i ∉ [7,9]→w1.grownBy w2 (some g)) kZ kZ kZ (Dr.start St3.env Ac.out) ?_
     simp only [ax,Act.put,sA,gs0,gs1,Nat.zero_add,Nat.reduceAdd]
     refine aa _ vd0 ?_
     apply aa
     case h1 =>
      intro vs L9 w9 xl xj hB K9 xk
      have d0:=fe hB 0
      simp only [d0] at xk ⊢
      have q0:w9.cell? ⟨g3,1,none⟩=some (F OA y.o.length oc):=((xj.room (bp.lies 9 g3 40 [F TA y.t.length tc,F OA y.o.length oc,O U y.gt,O U y.sd,O U y.ms]) sP).2 (xl.open_ 9 kZ)).cell 1
      simp only [Act.put,sA,gs0,gs1] at xk
      go_simp
      exact xk _ _ rfl (dS xl xj) gR
     refine aa _ vd0 ?_
     refine af [7,9] (fun v w9=>∃ (b:Nat) (l:List Int),v=F (some ⟨b,0,none⟩) 3 3∧l.length=3∧ai w9 b 3 (bj l)∧b ≠ g∧∀ z ∈ l,Sm z) ?_ (fun vs L9 w9 xl xj hB K9 xk=>?_) ?_
     next =>
      intro i9 yg hb9 ha9 v w1 w2 hv xJ
      have hb:=xJ (fun hm=>by
       simp only [mC,mN,oF] at hm hb9
       rcases hm with rfl | rfl
       ·exact hb9 sP
       ·exact hb9 sP)
      obtain ⟨b,l,q1,q2,q3,q4,q5⟩:=hv
      exact ⟨b,l,q1,q2,q3.kept hb (by intro e; injection e with e; exact q4 e),q4,q5⟩
     next =>
      simp only [Act.put,sA,gs0,gs1] at xk
      go_simp
      exact xk _ _ _ rfl ⟨w9.heap.size,[0,1,99],rfl,rfl,ai.new w9 3 _,by have:=xj.env.lt; omega,by intro z hz; simp only [mC,mN,oF] at hz; rcases hz with rfl | rfl | rfl <;> (first | assumption | exact ⟨dD,dD⟩)⟩ (xj.alloc xl.self dD _) (fun _=>World.grownBy_alloc _ _ _)
     refine sm0 [] (fun v _=>∃ z:Int,v=O U z∧Sm z) (fun vs L9 w9 xl xj hB K9 xk=>?_) ?_
     next =>
      have d2:=fe hB 2
      simp only [d2] at xk ⊢
      simp only [Act.put,sA,gs0,gs1] at xk
      obtain ⟨b3,l3,e3,el3,eL3,en3,eb3⟩:=fs hB 3
      simp only [e3] at xk ⊢
      go_simp
      refine (di xj.env b3 3 l3 el3 eL3 en3 oM oM (by have:=xj.cnt; omega)).mono ?_
      rintro en w8 ⟨x8,rfl,zi,yN,xP⟩
      exact xk _ _ _ rfl ⟨_,rfl,eb3 _ zi⟩ (dC xl xj yN xP) (fun _=>xP)
     refine sm0 [] (fun v _=>∃ k p c:Int,v=.agg #[O U k,O U p,O U c]∧Sm k∧Sm p∧Sm c) (fun vs L9 w9 xl xj hB K9 xk=>?_) ?_
     next =>
      simp only [Act.put,sA,gs0,gs1] at xk
      obtain ⟨z4,e4,zb4⟩:=fs hB 4
      simp only [e4] at xk ⊢
      go_simp
      exact xk _ _ _ rfl ⟨_,_,_,rfl,aD,aD,aD⟩ (dS xl xj) gR
     refine af [7,9] (fun v w9=>∃ (b:Nat) (k p c:Int),v=F (some ⟨b,0,none⟩) 1 1∧ai w9 b 147 [O U k,O U p,O U c]∧b ≠ g∧Sm k∧Sm p∧Sm c) ?_ (fun vs L9 w9 xl xj hB K9 xk=>?_) ?_
     next =>
      intro i9 yg hb9 ha9 v w1 w2 hv xJ
      have hb:=xJ (fun hm=>by
       simp only [mC,mN,oF] at hm hb9
       rcases hm with rfl | rfl
       ·exact hb9 sP
       ·exact hb9 sP)
      obtain ⟨b,k,p,c,q1,q2,q3,q4⟩:=hv
      exact ⟨b,k,p,c,q1,q2.kept hb (by intro e; injection e with e; exact q3 e),q3,q4⟩
     next =>
      simp only [Act.put,sA,gs0,gs1] at xk
      obtain ⟨k5 ,p5 ,c5,e5,sk5,sp5,sc5⟩:=fs hB 5
      simp only [e5] at xk ⊢
      go_simp
      exact xk _ _ _ rfl ⟨w9.heap.size,_,_,_,rfl,ai.new w9 147 _,by have:=xj.env.lt; omega,sk5,sp5,sc5⟩ (xj.alloc xl.self dD _) (fun _=>World.grownBy_alloc _ _ _)
     refine sm [9] (fun v w9=>∃ (A' : Option Addr) (c' : Nat) (t:ae),v=F A' (y.o.length+1) c'∧w9.ownsRow W.heap.size 147 3 (F A' (y.o.length+1) c') (y.o.length+1) ((y.o.flatMap ae.enc)++t.enc)∧wX t) (fun vs L9 w9 xl xj hB K9 xk=>?_) ?_
     next =>
      have d1:=fe hB 1
      simp only [d1] at xk ⊢
      simp only [Act.put,sA,gs0,gs1] at xk
      obtain ⟨b6,k6,p6,c6,e6,eL6,eN6,sk6,sp6,sc6⟩:=fs hB 6
      simp only [e6] at xk ⊢
      have ho:=(xj.room (bp.row 7 W.heap.size 147 3 (F OA y.o.length oc) y.o.length (y.o.flatMap ae.enc)) sP).2 xl.self
      refine jq rfl (.tmp 51) (.tmp 56) 38 rfl 147 _ 3 24 Tryz.underlying38 ew rfl oM oM W.heap.size _ y.o.length _ (by rfl) ho w9.heap.size (some ⟨b6,0,none⟩) 1 1 [O U k6,O U p6,O U c6] (by rfl) (eL6.reads rfl oM) (by simp [Value.oneCell']) oM (jT St3.gr.size xj.size) ?_
      intro A' c' w' ho' hg' hb'
      exact xk _ _ _ rfl ⟨A',c',⟨k6,p6,c6⟩,rfl,ho',sk6,sp6,sc6⟩ (xj.wrote xl.self dD hg' GY.out BP.out) nq
     refine aa _ vd0 ?_
     refine sm [] (fun _ w9=>∃ (A' : Option Addr) (c' : Nat) (t:ae),ai w9 g3 40 [F TA y.t.length tc,(F A' (y.o.length+1) c'),O U y.gt,O U y.sd,O U y.ms]∧w9.ownsRow W.heap.size 147 3 (F A' (y.o.length+1) c') (y.o.length+1) ((y.o.flatMap ae.enc)++t.enc)∧wX t) (fun vs L9 w9 xl xj hB K9 xk=>?_) ?_
     next =>
      have d8:=fe hB 8
      simp only [d8] at xk ⊢
      simp only [Act.put] at xk
      obtain ⟨A',c',t,e7,ho,xM⟩:=fs hB 7
      have xv:ai w9 g3 40 [F TA y.t.length tc,F OA y.o.length oc,O U y.gt,O U y.sd,O U y.ms]:=(xj.room (bp.lies 9 g3 40 [F TA y.t.length tc,F OA y.o.length oc,O U y.gt,O U y.sd,O U y.ms]) sP).2 xl.self
      simp only [e7] at xk ⊢
      obtain ⟨u0,u1,u2,u3,u4⟩:=cells5 xv
      obtain ⟨f0,f1,f2,f3,f4⟩:=frz5 xv
      have xO:=jZ (xv.set 1 (F A' (y.o.length+1) c'))
      have xI:=jZ (am ho xv ch 1 (F A' (y.o.length+1) c'))
      have yO:=jZ (ab (g:=g3) (i:=1) (u:=(F A' (y.o.length+1) c')) (World.grownBy.refl w9 (some g3)))
      clear xv ho
      go_simp
      exact xk _ undef _ rfl ⟨A',c',t,xO.out,xI.out,xM⟩ (xj.wrote xl.self dD yO.out (fun b e=>by injection e with e; subst e; exact ⟨oM,oM,.inl sP⟩) Ha.out) nq
     refine au fun vs Lq W5 xv yu hB=>?_
     obtain ⟨A',c',t,K5,BK,xM⟩:=hB 9 _ rfl rfl dD
     clear hB xv
     have En:∀ b,Value.ownBlock (F TA y.t.length tc)=some b→b ∉ [g,g3,gT]:=by
      intro b hb hm
      have h1:=(P.t.lt b hb).1
      simp only [mC,mN,oF] at hm
      rcases hm with rfl | rfl | rfl
      ·omega
      ·exact bn P.t K3 cd hb.symm
      ·cases hq:Value.ownBlock (F OA y.o.length oc) with
       | none=>have:=CE.out; rw [hq] at this; simp at this; omega
       | some q=>have h2:=CE.out; rw [hq] at h2; simp at h2; subst h2; exact py P.o P.t vj hq hb
     have yK:=yu.owns P.t En
     have hgT3:gT ≠ W.heap.size∧(gT=g ∨ W.heap.size≤gT):=by
      cases hq:Value.ownBlock (F OA y.o.length oc) with
      | none=>have:=CE.out; rw [hq] at this; simp at this; exact ⟨oM,.inl this.symm⟩
      | some q =>
       have h2:=CE.out; rw [hq] at h2; simp at h2; subst h2
       exact ⟨by intro e; exact bn P.o St3.out ch (by rw [hq,e]),.inr (P.o.lt q hq).1⟩
     have L25:=yu.lies St3.out (by simp only [mC,mN,oF]; omega)
     have E5:=yu.le
     have G5:=dK St3.gr yu (by intro k hk xw; simp only [mC,mN,oF] at hk; omega) St3.env
     have yL:W5.ownsRow W.heap.size 147 3 (F A' (y.o++[t]).length c') (y.o++[t]).length ((y.o++[t]).flatMap ae.enc):=by simpa using BK
     obtain ⟨z,hz⟩ : ∃ z,IntKind.i64.wrap (y.gt+1)=z:=⟨_,rfl⟩
     have zo:W5.grownBy (W5.setCell ⟨g3,2,none⟩ (O U z)) (some g3):=ab jG
     have K6:=K5.set 2 (O U z)
     simp only [List.set_cons_zero,List.set_cons_succ] at K6
     have Hb:=am yK K5 cd 2 (O U z)
     have Hc:=am yL K5 ch 2 (O U z)
     have L26:=L25.other (p:=⟨g3,2,none⟩) (show W.heap.size ≠ g3 by omega) (O U z)
     have E6:=E5.wrote zo oM oM
     have G6:=bf G5 zo oM
     obtain ⟨q0,q1,q2,q3,q4⟩:=cells5 K5
     obtain ⟨qf0,qf1,qf2,qf3,qf4⟩:=frz5 K5
     obtain ⟨W6,BT⟩ : ∃ W6,W5.setCell ⟨g3,2,none⟩ (O U z)=W6:=⟨_,rfl⟩
     rw [BT] at K6 Hb Hc L26 E6 G6
     clear yu K3 P St3 BK En hgT3 Ac GY BP Ha CE HF yK yL L25 E5 G5 zo K5
     obtain ⟨k0,k1,k2,k3,k4⟩:=cells5 K6
     obtain ⟨z0,z1,z2,z3,z4⟩:=cells5 L26
     obtain ⟨f0,f1,f2,f3,f4⟩:=frz5 L26
     have xC:W6.grownBy (dr W6 W.heap.size (F TA y.t.length tc) ((F A' (y.o.length+1) c')) (O U z) (O U y.sd) (O U y.ms)) (some W.heap.size):=eG
     obtain ⟨W8,yo⟩ : ∃ W8,(((((W6.setCell ⟨W.heap.size,0,none⟩ (F TA y.t.length tc)).setCell ⟨W.heap.size,1,none⟩ ((F A' (y.o.length+1) c'))).setCell ⟨W.heap.size,2,none⟩ (O U z)).setCell ⟨W.heap.size,3,none⟩ (O U y.sd)).setCell ⟨W.heap.size,4,none⟩ (O U y.ms))=W8:=⟨_,rfl⟩
     have HT:W8.ownsRow W.heap.size 104 2 (F TA y.t.length tc) ((⟨y.t,y.o++[t],z,y.sd,y.ms⟩ : Oc)).t.length (((⟨y.t,y.o++[t],z,y.sd,y.ms⟩ : Oc)).t.flatMap ar.enc):=by rw [← yo]; exact aR (v0:=F TA y.t.length tc) (v1:=(F A' (y.o.length+1) c')) (v2:=O U z) (v3:=O U y.sd) (v4:=O U y.ms) L26 Hb cd
     have HO:W8.ownsRow W.heap.size 147 3 ((F A' (y.o++[t]).length c')) ((⟨y.t,y.o++[t],z,y.sd,y.ms⟩ : Oc)).o.length (((⟨y.t,y.o++[t],z,y.sd,y.ms⟩ : Oc)).o.flatMap ae.enc):=by rw [← yo]; exact aR (v0:=F TA y.t.length tc) (v1:=(F A' (y.o.length+1) c')) (v2:=O U z) (v3:=O U y.sd) (v4:=O U y.ms) L26 Hc ch
     have LS:ai W8 W.heap.size 40 [F TA y.t.length tc,(F A' (y.o.length+1) c'),O U z,O U y.sd,O U y.ms]:=by rw [← yo]; exact eD (v0:=F TA y.t.length tc) (v1:=(F A' (y.o.length+1) c')) (v2:=O U z) (v3:=O U y.sd) (v4:=O U y.ms) L26
     have EE:fb w W8 g A bs cap (m+90000+2 * 10):=by rw [← yo]; exact (E6.wrote xC oM hB).mono oM
     have GG:W.grownBy W8 (some g):=by rw [← yo]; exact bf G6 xC nR
     have Cr:=jZ yo
     have BV:=jZ LS
     have Dp:=jZ HT
     have Dq:=jZ HO
     clear yo LS HT HO xC L26 K6
     repeat (first | (rw [BT]; clear BT) | go_values | go_skip | go_guarded | go_step | go_upon | simp only [])
     rw [Cr.out]
     have LS:=BV.out
     obtain ⟨x0,x1,x2,x3,x4⟩:=cells5 LS
     refine bodyPost_ret (v:=.agg #[F TA y.t.length tc,(F A' (y.o.length+1) c'),O U z,O U y.sd,O U y.ms]) (by simp [results,Tryz.results108,go_sem,x0,x1,x2,x3,x4]) rfl ?_
     exact ⟨(⟨y.t,y.o++[t],z,y.sd,y.ms⟩ : Oc),_,rfl,⟨TA,tc,A',c',by first | rfl | simp,Dp.out,Dq.out⟩,⟨by first | omega | (simp only [List.length_append,List.length_cons,List.length_nil]; omega),by first | omega | (simp only [List.length_append,List.length_cons,List.length_nil]; omega)⟩,by first | exact Bf.out | exact Bf.out.addT xM | exact Bf.out.addO xM,EE.mono oM,GG⟩
    ·have hf:∀ c:Int,0≤c→c≤2→(((i:Int)) == c)=false:=fun c h1 h2=>by rw [beq_eq_false_iff_ne]; omega
     have f00:=hf 0 oM oM
     have f01:=hf 1 oM oM
     have f02:=hf 2 oM oM
     clear hf
     have L25:=St3.out
     have E5:=St3.env
     have G5:=St3.gr
     have yK:=P.t
     have yL:=P.o
     clear P St3
     obtain ⟨k0,k1,k2,k3,k4⟩:=cells5 K3
     obtain ⟨z0,z1,z2,z3,z4⟩:=cells5 L25
     obtain ⟨f0,f1,f2,f3,f4⟩:=frz5 L25
     have xC:W3.grownBy (dr W3 W.heap.size (F TA y.t.length tc) (F OA y.o.length oc) (O U y.gt) (O U y.sd) (O U y.ms)) (some W.heap.size):=eG
     obtain ⟨W8,yo⟩ : ∃ W8,(((((W3.setCell ⟨W.heap.size,0,none⟩ (F TA y.t.length tc)).setCell ⟨W.heap.size,1,none⟩ (F OA y.o.length oc)).setCell ⟨W.heap.size,2,none⟩ (O U y.gt)).setCell ⟨W.heap.size,3,none⟩ (O U y.sd)).setCell ⟨W.heap.size,4,none⟩ (O U y.ms))=W8:=⟨_,rfl⟩
     have HT:W8.ownsRow W.heap.size 104 2 (F TA y.t.length tc) (y).t.length ((y).t.flatMap ar.enc):=by rw [← yo]; exact aR (v0:=F TA y.t.length tc) (v1:=F OA y.o.length oc) (v2:=O U y.gt) (v3:=O U y.sd) (v4:=O U y.ms) L25 yK cd
     have HO:W8.ownsRow W.heap.size 147 3 (F OA y.o.length oc) (y).o.length ((y).o.flatMap ae.enc):=by rw [← yo]; exact aR (v0:=F TA y.t.length tc) (v1:=F OA y.o.length oc) (v2:=O U y.gt) (v3:=O U y.sd) (v4:=O U y.ms) L25 yL ch
     have LS:ai W8 W.heap.size 40 [F TA y.t.length tc,F OA y.o.length oc,O U y.gt,O U y.sd,O U y.ms]:=by rw [← yo]; exact eD (v0:=F TA y.t.length tc) (v1:=F OA y.o.length oc) (v2:=O U y.gt) (v3:=O U y.sd) (v4:=O U y.ms) L25
     have EE:fb w W8 g A bs cap (m+90000):=by rw [← yo]; exact (E5.wrote xC oM hB).mono oM
     have GG:W.grownBy W8 (some g):=by rw [← yo]; exact bf G5 xC nR
     have Cr:=jZ yo
     have BV:=jZ LS
     have Dp:=jZ HT
     have Dq:=jZ HO
     clear yo LS HT HO xC L25 K3
     repeat (first | go_values | go_skip | go_guarded | go_step | go_upon | simp only [])
     rw [Cr.out]
     have LS:=BV.out
     obtain ⟨x0,x1,x2,x3,x4⟩:=cells5 LS
     refine bodyPost_ret (v:=.agg #[F TA y.t.length tc,F OA y.o.length oc,O U y.gt,O U y.sd,O U y.ms]) (by simp [results,Tryz.results108,go_sem,x0,x1,x2,x3,x4]) rfl ?_
     exact ⟨y,_,rfl,⟨TA,tc,OA,oc,by first | rfl | simp,Dp.out,Dq.out⟩,⟨by first | omega | (simp only [List.length_append,List.length_cons,List.length_nil]; omega),by first | omega | (simp only [List.length_append,List.length_cons,List.length_nil]; omega)⟩,by first | exact Bf.out | exact Bf.out.addT xM | exact Bf.out.addO xM,EE.mono oM,GG⟩
theorem pz {n:Nat} (h:n < 10):Lib.decDigits n = [UInt8.ofNat (48+n)]:=by rw [Lib.decDigits,dif_pos h]
theorem wj {n:Nat} (h : ¬ n < 10):Lib.decDigits n=Lib.decDigits (n / 10)++[UInt8.ofNat (48+n % 10)]:=by rw [Lib.decDigits,dif_neg h]
theorem od:∀ {n:Nat},n < 10→(⟨#[48,49,50,51,52,53,54,55,56,57]⟩ : ByteArray).extract n (n+1)=⟨[UInt8.ofNat (48+n)].toArray⟩
 | 0,_=>by decide | 1,_=>by decide | 2,_=>by decide | 3,_=>by decide | 4,_=>by decide
 | 5,_=>by decide | 6,_=>by decide | 7,_=>by decide | 8,_=>by decide | 9,_=>by decide
theorem tV {n:Nat} (h:n≤1000000000):(⟨(Lib.decDigits n).toArray⟩ : ByteArray).size≤100:=by
 show (Lib.decDigits n).toArray.size≤100
 rw [List.size_toArray,Lib.decDigits_length]
 have:=Lib.nDigits_le20 n oM
 omega
theorem ut (k:Nat):∀ (n:Nat) (w:World),n < 10 ^ k→n≤1000000000 →
  Calls xi 71 #[O U (n:Int)] w fun e w'=>e=.returned (xh ⟨(Lib.decDigits n).toArray⟩)∧Below w.heap.size w w':=by
 induction k with
 | zero =>
  intro n w hn _
  have h0:n=0:=by simpa using hn
  subst h0
  have HD:=jZ (pz (n:=0) oM)
  have HE:=jZ (od (n:=0) oM)
  go_enter Tryz.func71,Tryz.ntmps71
  go_wp2
  go_ret
  exact ⟨by rw [HD.out,← HE.out]; rfl,Below.refl _ _⟩
 | succ k ih =>
  intro n w hn hb
  by_cases h10:n < 10
  ·have HD:=jZ (pz h10)
   have HE:=jZ (od h10)
   go_enter Tryz.func71,Tryz.ntmps71
   go_wp2
   go_ret
   exact ⟨by rw [HD.out,← HE.out]; rfl,Below.refl _ _⟩
  ·have HD:=jZ (wj h10)
   have hr:n % 10 < 10:=Nat.mod_lt _ oM
   have HE:=jZ (od hr)
   have hk:n / 10 < 10 ^ k:=Nat.div_lt_of_lt_mul (by rw [Nat.mul_comm,← Nat.pow_succ]; exact hn)
   obtain ⟨sv,IU⟩ : ∃ s:ByteArray,s=⟨(Lib.decDigits (n / 10)).toArray⟩:=⟨_,rfl⟩
   obtain ⟨dv,IV⟩ : ∃ s:ByteArray,s=(⟨#[48,49,50,51,52,53,54,55,56,57]⟩ : ByteArray).extract (n % 10) (n % 10+1):=⟨_,rfl⟩
   have JX:sv.size≤100:=by rw [IU]; exact tV oM
   have Oj:dv.size≤10:=by rw [IV,HE.out]; exact (by decide:(1:Nat)≤10)
   have ih' : ∀ W:World,Calls xi 71 #[O U ((n:Int) / 10)] W fun e w'=>e=.returned (xh sv)∧Below W.heap.size W w':=fun W=>by
    have:=ih (n / 10) W hk oM
    rw [Int.natCast_ediv] at this; rw [IU]; exact this
   have IH:=jZ ih'; clear ih' ih
   have Ad:=IV.symm
   have MQ:=jZ IU; clear IU
   have MR:=jZ IV; clear IV
   have e1:(n:Int).tdiv 10=(n:Int) / 10:=Int.tdiv_eq_ediv_of_nonneg oM
   have e2:(n:Int).tmod 10=(n:Int) % 10:=Int.tmod_eq_emod_of_nonneg oM
   go_enter Tryz.func71,Tryz.ntmps71
   go_wp2_with fail
   refine aw kZ kZ ?_
   repeat (any_goals (first | go_big_quiet_step ((go_at_call 71; refine aP nR (IH.out _))) | (refine wpQuiet_step (fun K hK=>?_); go_simp; split <;> (refine hK _ ?_; clear hK K))))
   all_goals (refine wpQuiet_nil ?_; rintro _ ⟨q1,rfl⟩)
   go_wp2
   go_ret
   exact ⟨by rw [HD.out,MQ.out,MR.out,HE.out,ByteArray.mk_append_mk]; rfl,q1.below⟩
theorem cy (n:Int) (w:World) (h0:0≤n) (h1:n≤1000000000) :
  Calls xi 71 #[O U n] w fun e w'=>e=.returned (xh ⟨(Lib.itoa n).toArray⟩)∧Below w.heap.size w w':=by
 obtain ⟨m,rfl⟩:=Int.eq_ofNat_of_zero_le h0
 have e:Lib.itoa (m:Int)=Lib.decDigits m:=by unfold Lib.itoa; rw [if_neg oM,Int.toNat_natCast]
 have e' : Lib.itoa (Int.ofNat m)=Lib.decDigits m:=e
 first | rw [e] | rw [e']
 exact ut 10 m w oM oM
theorem cU {n:Int} (h0:0≤n) (h1:n≤1000000000):(⟨(Lib.itoa n).toArray⟩ : ByteArray).size≤100:=by
 unfold Lib.itoa
 rw [if_neg oM]
 exact tV oM
set_option maxRecDepth 100000 in
theorem lj (n:Int) (w:World) (h0 : -1000000≤n) (h1:n≤1000000) :
  Calls xi 71 #[O U n] w fun e w'=>∃ s:ByteArray,e=.returned (xh s)∧s.size≤101∧Below w.heap.size w w':=by
 by_cases hn:0≤n
 ·exact (cy n w hn oM).mono fun e w' ⟨he,hb⟩=>⟨_,he,jT (cU hn oM) oM,hb⟩
 ·have hc:=cy (-n) w oM oM
  have hl:(⟨(Lib.itoa (-n)).toArray⟩ : ByteArray).size≤100:=cU oM oM
  obtain ⟨T,hT⟩ : ∃ T:ByteArray,(⟨(Lib.itoa (-n)).toArray⟩ : ByteArray)=T:=⟨_,rfl⟩
  rw [hT] at hc hl
  clear hT
  have HC:=jZ hc
  clear hc
  have xu:n < 0:=oM
  have hw:IntKind.i64.wrap (-n) = -n:=IntWalk.i64_in _ oM
  have hz:(⟨#[45]⟩ : ByteArray).size=1:=rfl
  go_enter Tryz.func71,Tryz.ntmps71
  go_wp2_with fail
  refine HC.out.mono ?_
  rintro e w1 ⟨rfl,hb⟩
  go_wp2
  go_ret
  exact ⟨_,rfl,by first | (rw [ByteArray.size_append]; omega) | (simp; omega),hb⟩
end Go.Proofs.YtoeoimhemojdeaaGreatDoor
namespace Go.Proofs.YtoeoimhemojdeaaGreatDoor
def cJ (b:UInt8):List UInt8→List UInt8
 | []=>[]
 | x :: l=>if x=b then [] else x :: cJ b l
theorem lO {b:UInt8} : ∀ {l:List UInt8},b ∉ l→cJ b l=l
 | [],_=>rfl
 | x :: l,h=>by
  simp only [List.mem_cons,not_or] at h
  unfold cJ; rw [if_neg (Ne.symm h.1),lO h.2]
theorem ez {b:UInt8} {r:List UInt8} : ∀ {t:List UInt8},b ∉ t→cJ b (t++b :: r)=t
 | [],_=>by simp [cJ]
 | x :: l,h=>by
  simp only [List.mem_cons,not_or] at h
  rw [List.cons_append]; unfold cJ; rw [if_neg (Ne.symm h.1),ez h.2]
theorem fK (b:UInt8):∀ l:List UInt8,b ∉ cJ b l
 | []=>by simp [cJ]
 | x :: l=>by
  unfold cJ; split
  ·simp
  ·rename_i h; simp only [List.mem_cons,not_or]; exact ⟨Ne.symm h,fK b l⟩
theorem ko (b:UInt8):∀ l:List UInt8,(b ∉ l∧cJ b l=l) ∨ ∃ r,l=cJ b l++b :: r
 | []=>.inl ⟨sP,rfl⟩
 | x :: l=>by
  unfold cJ
  by_cases h:x=b
  ·rw [if_pos h]; exact .inr ⟨l,by simp [h]⟩
  ·rw [if_neg h]
   rcases ko b l with ⟨h1,h2⟩ | ⟨r,h1⟩
   ·exact .inl ⟨by simp only [List.mem_cons,not_or]; exact ⟨Ne.symm h,h1⟩,by rw [h2]⟩
   ·exact .inr ⟨r,by rw [List.cons_append,← h1]⟩
theorem lP (b:UInt8) (l:List UInt8):(cJ b l).length≤l.length:=by
 rcases ko b l with ⟨_,h⟩ | ⟨r,h⟩
 ·rw [h]; exact Nat.le_refl _
 ·have:=congrArg List.length h; simp at this; omega
theorem uu {b:UInt8} {l:List UInt8} : (cJ b l).length=l.length ↔ b ∉ l:=by
 constructor
 ·intro h
  rcases ko b l with ⟨h1,_⟩ | ⟨r,h1⟩
  ·exact h1
  ·have:=congrArg List.length h1; simp at this; omega
 ·intro h; rw [lO h]
theorem oe {b:UInt8} (l:List UInt8):l.take (cJ b l).length=cJ b l:=by
 rcases ko b l with ⟨_,h⟩ | ⟨r,h⟩
 ·rw [h]; simp
 ·have e:(cJ b l++b :: r).take (cJ b l).length=cJ b l:=List.take_left' rfl
  rwa [← h] at e
theorem db {b:UInt8} {l:List UInt8} (h:b ∈ l):l=cJ b l++b :: l.drop ((cJ b l).length+1):=by
 rcases ko b l with ⟨h1,_⟩ | ⟨r,h1⟩
 ·exact absurd h h1
 ·have e:(cJ b l++b :: r).drop ((cJ b l).length+1)=r:=by
   rw [List.drop_append,List.drop_eq_nil_of_le oM]; simp
  rw [← h1] at e
  rw [e]; exact h1
theorem iY (s:List UInt8) (b:UInt8) (i:Nat):Lib.occAt s [b] i=decide (s[i]?=some b):=by
 unfold Lib.occAt
 rcases Nat.lt_or_ge i s.length with h | h
 ·rw [List.drop_eq_getElem_cons h,List.getElem?_eq_getElem h]
  by_cases e:s[i]=b
  ·subst e; simp [List.isPrefixOf]
  ·simp [List.isPrefixOf,e,Ne.symm e]
 ·rw [List.drop_eq_nil_of_le h,List.getElem?_eq_none h]; rfl
theorem kp {s:List UInt8} {b:UInt8} (h:b ∉ s):Lib.index s [b] = -1 :=
 Lib.index_none fun j _=>by
  rw [iY,decide_eq_false_iff_not]; intro e; exact h (List.mem_of_getElem? e)
theorem lc {t r:List UInt8} {b:UInt8} (h:b ∉ t):Lib.index (t++b :: r) [b]=t.length :=
 Lib.index_first sP (by rw [iY]; simp) fun j hj=>by
  rw [iY,decide_eq_false_iff_not,List.getElem?_append_left hj]; intro e; exact h (List.mem_of_getElem? e)
theorem jO (s:List UInt8) (b:UInt8):(b ∉ s∧Lib.index s [b] = -1) ∨ (b ∈ s∧Lib.index s [b]=(cJ b s).length):=by
 rcases ko b s with ⟨h,_⟩ | ⟨r,h⟩
 ·exact .inl ⟨h,kp h⟩
 ·refine .inr ⟨by rw [h]; simp, ?_⟩
  rw (occs:=[1]) [h]; exact lc (fK b s)
theorem qi (s:List UInt8) (b:UInt8):Lib.contains s [b]=s.contains b:=by
 unfold Lib.contains
 rcases jO s b with ⟨h,e⟩ | ⟨h,e⟩
 ·rw [e]; simp [h]
 ·rw [e]; simp [h]
theorem qj {t r:List UInt8} {b:UInt8} (h:b ∉ r):Lib.lastIndex (t++b :: r) [b]=t.length:=by
 unfold Lib.lastIndex
 rw [if_pos (by simp; omega)]
 rcases Lib.lastOcc_spec (t++b :: r) [b] ((t++b :: r).length - [b].length+1) with ⟨_,hn⟩ | ⟨i,hi,e,ho,hn⟩
 ·have:=hn t.length (by simp; omega)
  rw [iY] at this; simp at this
 ·rw [e]
  rw [iY,decide_eq_true_eq] at ho
  rcases Nat.lt_trichotomy i t.length with xu | zW | AJ
  ·have:=hn t.length xu (by simp; omega)
   rw [iY] at this; simp at this
  ·rw [zW]
  ·exfalso
   rw [List.getElem?_append_right oM] at ho
   obtain ⟨d,hd⟩ : ∃ d,i - t.length=d+1:=⟨i - t.length - 1,oM⟩
   rw [hd,List.getElem?_cons_succ] at ho
   exact h (List.mem_of_getElem? ho)
theorem rj (s:List UInt8) (b:UInt8):Lib.lastIndex s [b] = -1 ∨ ∃ i:Nat,Lib.lastIndex s [b]=i∧i < s.length∧s[i]?=some b:=by
 unfold Lib.lastIndex
 split
 ·rcases Lib.lastOcc_spec s [b] (s.length - [b].length+1) with ⟨e,_⟩ | ⟨i,hi,e,ho,_⟩
  ·exact .inl e
  ·rw [iY,decide_eq_true_eq] at ho
   exact .inr ⟨i,e,(List.getElem?_eq_some_iff.1 ho).1,ho⟩
 ·exact .inl rfl
theorem mr:∀ (n:Nat) (c:UInt8),c ∈ Lib.decDigits n→48≤c.toNat∧c.toNat≤57:=by
 intro n
 induction n using Nat.strongRecOn with
 | ind n ih =>
  intro c hc
  rw [Lib.decDigits] at hc
  have one:∀ k,k < 10→c=UInt8.ofNat (48+k)→48≤c.toNat∧c.toNat≤57:=by
   intro k hk e
   have:c.toNat=48+k:=by rw [e,UInt8.toNat_ofNat']; omega
   omega
  split at hc
  ·rename_i h; exact one n h (by simpa using hc)
  ·rename_i h
   rcases List.mem_append.1 hc with h1 | h1
   ·exact ih (n / 10) oM c h1
   ·exact one (n % 10) oM (by simpa using h1)
theorem lQ (n:Nat):Lib.itoa (n:Int)=Lib.decDigits n:=by unfold Lib.itoa; rw [if_neg oM,Int.toNat_natCast]
theorem ip {n:Nat} {b:UInt8} (h:b.toNat < 48 ∨ 57 < b.toNat):b ∉ Lib.itoa (n:Int):=by
 rw [lQ]; intro hb; have:=mr n b hb; omega
theorem pA {n:Nat} (h:n≤9223372036854775807):(Lib.itoa (n:Int)).length≤21:=Lib.itoa_length_le _ oM oM
def iB (c:UInt8):Bool:=decide (32≤c.toNat) && decide (c.toNat≤126) && c != 35
def bD (l:List UInt8):Bool:=l.all iB
theorem og {l:List UInt8} (h:bD l=true):(35:UInt8) ∉ l:=fun hm=>by
 have:=List.all_eq_true.1 h _ hm; simp [iB] at this
theorem rk {l:List UInt8} (h:bD l=true):(10:UInt8) ∉ l:=fun hm=>by
 have:=List.all_eq_true.1 h _ hm; simp [iB] at this
def eX (c r:List UInt8):Bool:=decide (1≤c.length) && decide (c.length≤160) && bD c && !c.contains 64 && bD r && decide (r.length≤200)
theorem dd {c r:List UInt8} : eX c r=true ↔ 1≤c.length∧c.length≤160∧bD c=true∧(64:UInt8) ∉ c∧bD r=true∧r.length≤200:=by
 unfold eX; simp [Bool.and_eq_true,and_assoc]
def ii:Nat→List UInt8→Nat
 | h,[]=>h
 | h,c :: l=>ii ((41 * h+c.toNat+1) % 999979) l
theorem oh:∀ (l:List UInt8) (h:Nat),h < 999979→ii h l < 999979
 | [],_,h=>h
 | _ :: l,_,_=>oh l _ (Nat.mod_lt _ oM)
def jP (l:List UInt8):Nat:=ii 7 l
theorem ql (l:List UInt8):jP l < 999979:=oh l 7 oM
def eE (t:List UInt8):List UInt8:=t++35 :: Lib.itoa (jP t)
theorem lR (t:List UInt8):(eE t).length≤t.length+22:=by
 have:=pA (n:=jP t) (by have:=ql t; omega)
 unfold eE; simp; omega
theorem gm {t:List UInt8} (h:(35:UInt8) ∉ t):cJ 35 (eE t)=t:=ez h
theorem uv (t:List UInt8):Lib.lastIndex (eE t) [35]=t.length:=qj (ip dD)
def eS (k:Nat) (c r:List UInt8):List UInt8:=Lib.itoa (k:Int)++[32]++c++[64]++r
def bT (k:Nat) (c r:List UInt8):List UInt8:=eE (eS k c r)++[10]
theorem gp {k:Nat} {c r:List UInt8} (h:eX c r=true):(35:UInt8) ∉ eS k c r:=by
 obtain ⟨_,_,h1,_,h2,_⟩:=dd.1 h
 have a:=ip (n:=k) (b:=35) dD
 have b:=og h1
 have d:=og h2
 unfold eS; simp [a,b,d]
theorem nH {k:Nat} {c r:List UInt8} (h:eX c r=true) (hk:k≤9223372036854775807):(eS k c r).length≤383:=by
 obtain ⟨_,h1,_,_,_,h2⟩:=dd.1 h
 have:=pA hk
 unfold eS; simp; omega
theorem jr {k:Nat} {c r:List UInt8} (h:eX c r=true) (hk:k≤9223372036854775807):(bT k c r).length≤406:=by
 have:=nH h hk
 have:=lR (eS k c r)
 unfold bT; simp; omega
theorem tW {k:Nat} {c r:List UInt8} (h:eX c r=true):(10:UInt8) ∉ eE (eS k c r):=by
 obtain ⟨_,_,h1,_,h2,_⟩:=dd.1 h
 have a:=ip (n:=k) (b:=10) dD
 have a':=ip (n:=jP (eS k c r)) (b:=10) dD
 have b:=rk h1
 have d:=rk h2
 unfold eE
 simp only [List.mem_append,List.mem_cons,not_or]
 refine ⟨?_,dD,a'⟩
 unfold eS; simp [a,b,d]
def vw (k:Nat) (c r s:List UInt8):Prop:=eX c r=true∧eE (eS k c r)=s
theorem vw.inj {k:Nat} {c r c' r' s:List UInt8} (h:vw k c r s) (h' : vw k c' r' s):c=c'∧r=r':=by
 obtain ⟨h1,h2⟩:=h
 obtain ⟨h1',h2'⟩:=h'
 have e:eS k c r=eS k c' r':=by rw [← gm (gp h1),← gm (gp h1'),h2,h2']
 unfold eS at e
 simp only [List.append_assoc] at e
 have e2:=List.append_cancel_left (List.append_cancel_left e)
 obtain ⟨_,_,_,n,_⟩:=dd.1 h1
 obtain ⟨_,_,_,n',_⟩:=dd.1 h1'
 have a:=ez (r:=r) n
 have a':=ez (r:=r') n'
 have e3:c++64 :: r=c'++64 :: r':=e2
 rw [e3,a'] at a
 subst a
 exact ⟨rfl,by simpa using List.append_cancel_left e3⟩
open Classical in
noncomputable def dZ (k:Nat) (s:List UInt8):Option (List UInt8 × List UInt8):=if h:∃ p:List UInt8 × List UInt8,vw k p.1 p.2 s then some h.choose else none
theorem mt {k:Nat} {c r s:List UInt8} (h:vw k c r s):dZ k s=some (c,r):=by
 have Ad:∃ p:List UInt8 × List UInt8,vw k p.1 p.2 s:=⟨(c,r),h⟩
 unfold dZ
 rw [dif_pos Ad]
 obtain ⟨e1,e2⟩:=Ad.choose_spec.inj h
 exact congrArg some (Prod.ext e1 e2)
theorem fS {k:Nat} {s:List UInt8} (h:∀ c r,¬ vw k c r s):dZ k s=none:=by
 unfold dZ
 rw [dif_neg (fun ⟨p,hp⟩=>h _ _ hp)]
theorem oi {k:Nat} {c r s:List UInt8} (h:dZ k s=some (c,r)):vw k c r s:=by
 by_cases Ad:∃ p:List UInt8 × List UInt8,vw k p.1 p.2 s
 ·unfold dZ at h
  rw [dif_pos Ad] at h
  have:=Ad.choose_spec
  rw [Option.some.inj h] at this
  exact this
 ·unfold dZ at h
  rw [dif_neg Ad] at h; cases h
def qF (t s:List UInt8):Prop:=(35:UInt8) ∉ t∧eE t=s∧t.length≤4000∧s.length≤4000
theorem qF.inj {t t' s:List UInt8} (h:qF t s) (h' : qF t' s):t=t':=by
 rw [← gm h.1,← gm h'.1,h.2.1,h'.2.1]
theorem vw.ver {k:Nat} {c r s:List UInt8} (h:vw k c r s) (hk:k≤9223372036854775807):qF (eS k c r) s:=by
 refine ⟨gp h.1,h.2,by have:=nH h.1 hk; omega, ?_⟩
 rw [← h.2]; have:=nH h.1 hk; have:=lR (eS k c r); omega
theorem ss {k:Nat} {s:List UInt8} (hk:k≤9223372036854775807) (h:∀ t,¬ qF t s):dZ k s=none:=fS fun _ _ he=>h _ (he.ver hk)
theorem su {k:Nat} {s t:List UInt8} (hk:k≤9223372036854775807) (hv:qF t s) (h : ¬ (Lib.itoa (k:Int)++[32]) <+: t):dZ k s=none:=fS fun c r he=>h (by
 rw [hv.inj (he.ver hk)]
 exact ⟨c++[64]++r,by unfold eS; simp⟩)
theorem uw {k:Nat} {s t u:List UInt8} (hk:k≤9223372036854775807) (hv:qF t s) (ht:t=Lib.itoa (k:Int)++[32]++u) (h:(64:UInt8) ∉ u):dZ k s=none:=fS fun c r he=>h (by
 have e:=hv.inj (he.ver hk)
 rw [ht] at e
 unfold eS at e
 simp only [List.append_assoc] at e
 have:=List.append_cancel_left (List.append_cancel_left e)
 rw [this]; simp)
theorem rm {k:Nat} {s t c r:List UInt8} (hk:k≤9223372036854775807) (hv:qF t s) (ht:t=Lib.itoa (k:Int)++[32]++(c++64 :: r)) (hc:(64:UInt8) ∉ c) :
  dZ k s=if eX c r=true then some (c,r) else none:=by
 have e0:eS k c r=t:=by rw [ht]; unfold eS; simp
 split
 ·rename_i h; exact mt ⟨h,by rw [e0]; exact hv.2.1⟩
 ·rename_i h
  refine fS fun c' r' he=>h ?_
  have e:=hv.inj (he.ver hk)
  rw [← e0] at e
  unfold eS at e
  simp only [List.append_assoc] at e
  have e2:=List.append_cancel_left (List.append_cancel_left e)
  have e3:c++64 :: r=c'++64 :: r':=e2
  obtain ⟨_,_,_,n',_⟩:=dd.1 he.1
  have a:=ez (r:=r) hc
  rw [e3,ez n'] at a
  subst a
  have:r=r':=by simpa using List.append_cancel_left e3
  subst this
  exact he.1
theorem qm {k:Nat} {s:List UInt8} (h : ¬ (Lib.itoa (k:Int)++[32]) <+: cJ 35 s):dZ k s=none:=fS fun c r he=>h (by
 rw [← he.2,gm (gp he.1)]
 exact ⟨c++[64]++r,by unfold eS; simp⟩)
theorem rn {k:Nat} {s u:List UInt8} (ht:cJ 35 s=Lib.itoa (k:Int)++[32]++u) (h:(64:UInt8) ∉ u):dZ k s=none:=fS fun c r he=>h (by
 rw [← he.2,gm (gp he.1)] at ht
 unfold eS at ht
 simp only [List.append_assoc] at ht
 have:=List.append_cancel_left (List.append_cancel_left ht)
 rw [← this]; simp)
theorem qn {k:Nat} {s c r:List UInt8} (ht:cJ 35 s=Lib.itoa (k:Int)++[32]++(c++64 :: r)) (hc:(64:UInt8) ∉ c) :
  dZ k s=if eX c r=true∧bT k c r=s++[10] then some (c,r) else none:=by
 split
 ·rename_i h; exact mt ⟨h.1,List.append_cancel_right h.2⟩
 ·rename_i h
  refine fS fun c' r' he=>h ?_
  have e:=ht
  rw [← he.2,gm (gp he.1)] at e
  unfold eS at e
  simp only [List.append_assoc] at e
  have e2:=List.append_cancel_left (List.append_cancel_left e)
  have e3:c'++64 :: r'=c++64 :: r:=e2
  obtain ⟨_,_,_,n',_⟩:=dd.1 he.1
  have a:=ez (r:=r) hc
  rw [← e3,ez n'] at a
  subst a
  have:r'=r:=by simpa using List.append_cancel_left e3
  subst this
  exact ⟨he.1,by unfold bT; rw [he.2]⟩
noncomputable def aF:Nat→Nat→List UInt8→List ((List UInt8 × List UInt8) × Nat)
 | 0,_,_=>[]
 | n+1,k,s=>if (10:UInt8) ∈ s then
   match dZ k (cJ 10 s) with
   | none=>[]
   | some e=>(e,(cJ 10 s).length+1) :: aF n (k+1) (s.drop ((cJ 10 s).length+1))
  else []
def ck (l:List ((List UInt8 × List UInt8) × Nat)):Nat:=(l.map (·.2)).sum
theorem fT (e:(List UInt8 × List UInt8) × Nat) (l:List ((List UInt8 × List UInt8) × Nat)):ck (e :: l)=e.2+ck l:=by simp [ck]
theorem dB {n k:Nat} {s:List UInt8} (h:(10:UInt8) ∉ s):aF n k s = []:=by cases n <;> simp [aF,h]
theorem dH {n k:Nat} {s:List UInt8} (h:dZ k (cJ 10 s)=none):aF n k s = []:=by cases n <;> simp [aF,h]
theorem cl {n k:Nat} {s:List UInt8} {e:List UInt8 × List UInt8} (h1:(10:UInt8) ∈ s) (h2:dZ k (cJ 10 s)=some e) :
  aF (n+1) k s=(e,(cJ 10 s).length+1) :: aF n (k+1) (s.drop ((cJ 10 s).length+1)):=by simp [aF,h1,h2]
theorem fO:∀ (n k:Nat) (s:List UInt8),ck (aF n k s)≤s.length
 | 0,_,_=>by simp [aF,ck]
 | n+1,k,s=>by
  by_cases h1:(10:UInt8) ∈ s
  ·cases h2:dZ k (cJ 10 s) with
   | none=>rw [dH h2]; simp [ck]
   | some e =>
    rw [cl h1 h2,fT]
    have:=fO n (k+1) (s.drop ((cJ 10 s).length+1))
    have h3:=congrArg List.length (db h1)
    simp at this h3
    simp only
    omega
  ·rw [dB h1]; simp [ck]
theorem cW:∀ (n k:Nat) (s:List UInt8),(aF n k s).length≤n
 | 0,_,_=>by simp [aF]
 | n+1,k,s=>by
  by_cases h1:(10:UInt8) ∈ s
  ·cases h2:dZ k (cJ 10 s) with
   | none=>rw [dH h2]; simp
   | some e=>rw [cl h1 h2,List.length_cons]; have:=cW n (k+1) (s.drop ((cJ 10 s).length+1)); omega
  ·rw [dB h1]; simp
theorem m7:∀ (n k:Nat) (s:List UInt8),n+k≤1000→ck (aF n k s)≤406 * n
 | 0,_,_,_=>by simp [aF,ck]
 | n+1,k,s,h=>by
  by_cases h1:(10:UInt8) ∈ s
  ·cases h2:dZ k (cJ 10 s) with
   | none=>rw [dH h2]; simp [ck]
   | some e =>
    rw [cl h1 h2,fT]
    have:=m7 n (k+1) (s.drop ((cJ 10 s).length+1)) oM
    obtain ⟨c,r⟩:=e
    have he:=oi h2
    have hl:=jr (k:=k) he.1 oM
    unfold bT at hl; rw [he.2] at hl; simp at hl
    simp only
    omega
  ·rw [dB h1]; simp [ck]
def er:Nat→List ((List UInt8 × List UInt8) × Nat)→List Nat
 | a,[]=>[a]
 | a,e :: l=>a :: er (a+e.2) l
theorem vx (a:Nat) (l:List ((List UInt8 × List UInt8) × Nat)):er a l ≠ []:=by cases l <;> simp [er]
theorem ij:∀ (a:Nat) (l:List ((List UInt8 × List UInt8) × Nat)),(er a l).length=l.length+1
 | _,[]=>rfl
 | a,_ :: l=>by simp [er,ij (a+_) l]
theorem om:∀ (a:Nat) (l:List ((List UInt8 × List UInt8) × Nat)) (e:(List UInt8 × List UInt8) × Nat),er a (l++[e])=er a l++[a+ck l+e.2]
 | a,[],e=>by simp [er,ck]
 | a,x :: l,e=>by simp [er,om (a+x.2) l e,fT,Nat.add_assoc]
theorem lk:∀ (a:Nat) (l:List ((List UInt8 × List UInt8) × Nat)),(er a l)[l.length]?=some (a+ck l)
 | _,[]=>by simp [er,ck]
 | a,x :: l=>by simp [er,lk (a+x.2) l,fT,Nat.add_assoc]
theorem ro:∀ (a:Nat) (l:List ((List UInt8 × List UInt8) × Nat)) (x:Nat),x ∈ er a l→a≤x
 | a,[],x,h=>by simp [er] at h; omega
 | a,e :: l,x,h=>by
  simp only [er,List.mem_cons] at h
  rcases h with h | h
  ·omega
  ·have:=ro (a+e.2) l x h; omega
theorem rq:∀ (n k a:Nat) (D P:List UInt8),a+D.length ∈ er a (aF n k (D++P)) ↔ ck (aF n k D)=D.length
 | 0,k,a,D,P=>by simp only [aF,er,ck,List.map_nil,List.sum_nil,List.mem_singleton]; omega
 | n+1,k,a,D,P=>by
  by_cases hD:D.length=0
  ·have:D = []:=List.eq_nil_of_length_eq_zero hD
   subst this
   rw [dB (s:=[]) sP]
   constructor
   ·intro _; rfl
   ·intro _
    have:er a (aF (n+1) k ([]++P)) ≠ []:=vx _ _
    cases h:aF (n+1) k ([]++P) <;> simp [er]
  ·by_cases h1:(10:UInt8) ∈ D
   ·have e1:=db h1
    have h1' : (10:UInt8) ∈ D++P:=by simp [h1]
    have hb:cJ 10 (D++P)=cJ 10 D:=by
     rw (occs:=[1]) [e1]
     rw [List.append_assoc,List.cons_append]; exact ez (fK 10 D)
    have xt:(cJ 10 D).length+1≤D.length:=by have:=congrArg List.length e1; simp at this; omega
    cases h2:dZ k (cJ 10 D) with
    | none =>
     rw [dH (by rw [hb]; exact h2),dH h2]
     simp only [er,ck,List.map_nil,List.sum_nil,List.mem_singleton]; omega
    | some e =>
     rw [cl h1' (by rw [hb]; exact h2),cl h1 h2,hb]
     have e2:(D++P).drop ((cJ 10 D).length+1)=D.drop ((cJ 10 D).length+1)++P:=List.drop_append_of_le_length xt
     rw [e2,fT]
     simp only [er,List.mem_cons]
     have ih:=rq n (k+1) (a+((cJ 10 D).length+1)) (D.drop ((cJ 10 D).length+1)) P
     rw [List.length_drop] at ih
     have e3:a+((cJ 10 D).length+1)+(D.length - ((cJ 10 D).length+1))=a+D.length:=oM
     rw [e3] at ih
     constructor
     ·rintro (h | h)
      ·omega
      ·have:=ih.1 h; omega
     ·intro h
      exact .inr (ih.2 oM)
   ·rw [dB h1]
    simp only [ck,List.map_nil,List.sum_nil]
    constructor
    ·intro h
     exfalso
     by_cases h3:(10:UInt8) ∈ D++P
     ·cases h2:dZ k (cJ 10 (D++P)) with
      | none=>rw [dH h2] at h; simp only [er,List.mem_singleton] at h; omega
      | some e =>
       rw [cl h3 h2] at h
       simp only [er,List.mem_cons] at h
       rcases h with h | h
       ·omega
       ·have:=ro _ _ _ h
        have xR:D.length≤(cJ 10 (D++P)).length:=by
         rcases Nat.lt_or_ge (cJ 10 (D++P)).length D.length with xu | xR
         ·exfalso
          have e4:=db h3
          have h5:(D++P)[(cJ 10 (D++P)).length]?=some 10:=by rw (occs:=[1]) [e4]; simp
          rw [List.getElem?_append_left xu] at h5
          exact h1 (List.mem_of_getElem? h5)
         ·exact xR
        omega
     ·rw [dB h3] at h; simp only [er,List.mem_singleton] at h; omega
    ·intro h; omega
noncomputable def rr (D P:List UInt8) (n:Int):Bool :=
 decide (ck (aF 60 0 (D++P))=D.length+P.length) && decide (ck (aF 60 0 D)=D.length) && decide (((aF 60 0 (D++P)).length:Int)=n)
theorem fl {D P:List UInt8} (h:ck (aF 60 0 (D++P))=D.length+P.length):D.length+P.length≤30000:=by
 have:=m7 60 0 (D++P) oM; omega
theorem ce {D P:List UInt8} {n:Int} : rr D P n=true ↔ ck (aF 60 0 (D++P))=D.length+P.length∧ck (aF 60 0 D)=D.length∧((aF 60 0 (D++P)).length:Int)=n:=by
 unfold rr; simp [Bool.and_eq_true,and_assoc]
theorem sw {D P:List UInt8} {n:Int} : rr D P n=true ↔ ck (aF 60 0 (D++P))=D.length+P.length∧D.length ∈ er 0 (aF 60 0 (D++P))∧n=((aF 60 0 (D++P)).length:Int):=by
 have:=rq 60 0 0 D P
 rw [Nat.zero_add] at this
 rw [ce,this]
 constructor <;> (rintro ⟨h1,h2,h3⟩; exact ⟨h1,h2,h3.symm⟩)
end Go.Proofs.YtoeoimhemojdeaaGreatDoor
namespace Go.Proofs.YtoeoimhemojdeaaGreatDoor
open Go.RowKit
def bl (s:ByteArray):List UInt8:=s.data.toList
theorem dw (a b:ByteArray):bl (a++b)=bl a++bl b:=by unfold bl; rw [ByteArray.data_append,Array.toList_append]
theorem bO (l:List UInt8):bl ⟨l.toArray⟩=l:=by simp [bl]
theorem mu (l:Array UInt8):bl ⟨l⟩=l.toList:=rfl
theorem ao (s:ByteArray):(bl s).length=s.size:=rfl
theorem dU {s:ByteArray} {l:List UInt8} (h:bl s=l):s=⟨l.toArray⟩:=by
 rw [← h]; simp [bl]
theorem vy {s t:ByteArray} (h:bl s=bl t):s=t:=(dU h).trans (dU rfl).symm
set_option maxRecDepth 10000 in
theorem bg (a b:ByteArray):(a++b).size=a.size+b.size:=by rw [← ao (a++b),dw,List.length_append,ao,ao]
theorem kG {s:ByteArray} {k:Nat} (h:k < s.size):(bl s).drop k=s[k] :: (bl s).drop (k+1):=List.drop_eq_getElem_cons (l:=bl s) h
theorem wk {s:ByteArray} {k:Nat} (h:k < s.size):(bl s).take (k+1)=(bl s).take k++[s[k]]:=List.take_succ_eq_append_getElem (l:=bl s) h
theorem bH (s:ByteArray) (a b:Nat):bl (s.extract a b)=((bl s).take b).drop a:=by
 unfold bl
 rw [Lib.extract_data,List.drop_take]
theorem wE {a b:UInt8} : ((a.toNat:Int) == (b.toNat:Int))=decide (a=b):=by
 rw [Bool.eq_iff_iff]; simp [← UInt8.toNat_inj]; omega
end Go.Proofs.YtoeoimhemojdeaaGreatDoor
namespace Go.Proofs.YtoeoimhemojdeaaGreatDoor
theorem wY (s:ByteArray):s.toList=bl s:=ByteArray.toList_eq s
theorem pB {s:ByteArray} (h : ¬ 1≤s.size):s.toList = []:=by rw [wY]; exact List.eq_nil_of_length_eq_zero (by rw [ao]; omega)
theorem pC {s:ByteArray} (h:1≤s.size):s.toList ≠ []:=fun e=>by rw [wY] at e; have:=congrArg List.length e; rw [ao,List.length_nil] at this; omega
end Go.Proofs.YtoeoimhemojdeaaGreatDoor
namespace Go.Proofs.YtoeoimhemojdeaaGreatDoor
open Go.RowKit
abbrev vz (l:List ByteArray):List Value:=l.map Value.string
theorem kH {w W:World} {g:Nat} {A:Option Addr} {bs:List UInt8} {cap m:Nat} (E:fb w W g A bs cap m) (b n:Nat) (l:List ByteArray) (hl:l.length=n) (hL:ai W b 9 (vz l)) (xw:b ≠ g) (h0:0 < n) (hn:n≤100000) (hm:m≤900000000) :
  Calls xi 113 #[.pointer (some ⟨g,0,none⟩),F (some ⟨b,0,none⟩) n n] W fun e w'=>∃ x:ByteArray,e=.returned (xh x)∧x ∈ l∧fb w w' g A bs cap (m+2)∧W.grownBy w' (some g):=by
 go_enter Tryz.func113,Tryz.ntmps113
 go_wp2_with fail
 refine (dp E n hn hm).mono ?_
 rintro e w1 ⟨x,rfl,hx,E1,gr⟩
 have xu:x < l.length:=oM
 have kc:w1.cell? ⟨b,x,none⟩=some (xh l[x]):=by
  rw [(hL.kept gr (by intro e; injection e with e; exact xw e)).cell]; simp [xu]
 have Bi:l[x] ∈ l:=List.getElem_mem xu
 have Ok:x < n:=oM
 generalize l[x]=y at kc Bi
 clear hx xu E
 go_wp2
 go_ret
 exact ⟨y,rfl,Bi,E1,gr⟩
theorem kI (s:ByteArray) (a b:Nat):(s.extract a b).size=min b s.size - a:=ByteArray.size_extract ..
theorem oo (g:Nat) (A:Option Addr) (cap m:Nat) (bs:List UInt8) (t s:ByteArray) (w W:World) (hs:1≤s.size) (hs' : s.size≤100) (ht:t.size≤100000) (hm:m≤800000000) (E:fb w W g A bs cap m) :
  Calls xi 65 #[.pointer (some ⟨g,0,none⟩),xh t,xh s] W fun e w'=>∃ x:ByteArray,e=.returned (xh x)∧x.size≤t.size+1∧fb w w' g A bs cap (m+6)∧W.grownBy w' (some g):=by
 by_cases h0:1≤t.size
 ·have xw:t.toList.isEmpty=false:=List.isEmpty_eq_false_iff.2 (pC h0)
  go_enter Tryz.func65,Tryz.ntmps65
  go_wp2_with fail
  refine (dp E t.size oM oM).mono ?_
  rintro e w1 ⟨i,rfl,hi,E1,gr1⟩
  have hi' : i+1≤t.size:=oM
  clear hi xw
  go_wp2_with fail
  refine (dp E1 s.size oM oM).mono ?_
  rintro e w2 ⟨j,rfl,hj,E2,gr2⟩
  have gr12:=aA gr1 gr2
  have hj' : j+1≤s.size:=oM
  have z1:=kI s j s.size
  clear hj gr1 gr2 E1
  go_wp2_with fail
  have MS:((s.extract j s.size).extract 0 1).size≤1:=by rw [kI]; omega
  generalize (s.extract j s.size).extract 0 1=x at MS ⊢
  refine (dp E2 3 oM oM).mono ?_
  rintro e w3 ⟨k,rfl,hk,E3,gr3⟩
  have gr:=aA gr12 gr3
  have z2:=kI t 0 i
  have z3:=kI t i t.size
  have z4:=kI t (i+1) t.size
  have y1:=bg (t.extract 0 i) x
  have y2:=bg (t.extract 0 i++x) (t.extract i t.size)
  have y3:=bg (t.extract 0 i++x) (t.extract (i+1) t.size)
  have y4:=bg (t.extract 0 i) (t.extract (i+1) t.size)
  have MT:k=0 ∨ k=1 ∨ k=2:=oM
  have HE:=jZ E3
  have HG:=jZ gr
  clear gr12 gr3 E2 E3 gr E hk z1
  rcases MT with rfl | rfl | rfl
  ·go_wp2_with fail
   refine aw kZ kZ ?_
   repeat (any_goals (first | go_big_quiet_step ((fail)) | (refine wpQuiet_step (fun K hK=>?_); go_simp; split <;> (refine hK _ ?_; clear hK K))))
   all_goals (refine wpQuiet_nil ?_; rintro _ ⟨q1,rfl⟩)
   go_wp2_with fail
   go_ret
   exact ⟨_,rfl,oM,HE.out.below q1.below,aA HG.out (bJ q1.below _)⟩
  ·go_wp2_with fail
   refine aw kZ kZ ?_
   repeat (any_goals (first | go_big_quiet_step ((fail)) | (refine wpQuiet_step (fun K hK=>?_); go_simp; split <;> (refine hK _ ?_; clear hK K))))
   all_goals (refine wpQuiet_nil ?_; rintro _ ⟨q1,rfl⟩)
   go_wp2_with fail
   go_ret
   exact ⟨_,rfl,oM,HE.out.below q1.below,aA HG.out (bJ q1.below _)⟩
  ·go_wp2_with fail
   refine aw kZ kZ ?_
   repeat (any_goals (first | go_big_quiet_step ((fail)) | (refine wpQuiet_step (fun K hK=>?_); go_simp; split <;> (refine hK _ ?_; clear hK K))))
   all_goals (refine wpQuiet_nil ?_; rintro _ ⟨q1,rfl⟩)
   go_wp2_with fail
   go_ret
   exact ⟨_,rfl,oM,HE.out.below q1.below,aA HG.out (bJ q1.below _)⟩
 ·have he:t.toList.isEmpty=true:=List.isEmpty_iff.2 (pB h0)
  have z1:=kI s 0 1
  go_enter Tryz.func65,Tryz.ntmps65
  go_wp2_with fail
  go_ret
  exact ⟨_,rfl,by rw [z1]; omega,E.mono oM,World.grownBy.refl _ _⟩
end Go.Proofs.YtoeoimhemojdeaaGreatDoor
namespace Go.Proofs
open Go.Shelf
def Tryz.lays137_ren:Go.Shelf.Ren:=⟨fun | 137=>122 | 217=>168 | 266=>193 | n=>n,fun | 9=>9 | 5=>5 | 3=>3 | n=>n,fun | n=>n⟩
theorem Tryz.lays137:Go.Proofs.Lays.n137 xi Tryz.lays137_ren:={
 mixed:=by kernel_rfl
 f137:=Tryz.func122.trans (congrArg some (by kernel_rfl))
 f217:=Tryz.func168.trans (congrArg some (by kernel_rfl))
 f266:=Tryz.func193.trans (congrArg some (by kernel_rfl))
 t3:=Tryz.underlying3
 a3:=Tryz.isAgg3
 z3:=Tryz.sizeOf3
 v3:=Tryz.zeroValue3
 t5:=Tryz.underlying5
 a5:=Tryz.isAgg5
 z5:=Tryz.sizeOf5
 v5:=Tryz.zeroValue5
 t9:=Tryz.underlying9
 a9:=Tryz.isAgg9
 z9:=Tryz.sizeOf9
 v9:=Tryz.zeroValue9 }
open Go.RowKit in
theorem Tryz.strings_IndexByte (s:ByteArray) (c:Int) (w:World) :
  Calls xi 122 #[xh s,.int .u8 c] w fun e w'=>e=.returned (O U (Lib.indexByte s.data.toList c.toNat.toUInt8))∧w'=w:=Any.strings_IndexByte Tryz.lays137 s c w
def Tryz.lays103_ren:Go.Shelf.Ren:=⟨fun | 103=>170 | 210=>195 | 206=>220 | n=>n,fun | 9=>9 | 4=>4 | 24=>64 | 3=>3 | n=>n,fun | n=>n⟩
theorem Tryz.lays103:Go.Proofs.Lays.n103 xi Tryz.lays103_ren:={
 mixed:=by kernel_rfl
 f103:=Tryz.func170.trans (congrArg some (by kernel_rfl))
 f206:=Tryz.func220.trans (congrArg some (by kernel_rfl))
 f210:=Tryz.func195.trans (congrArg some (by kernel_rfl))
 t3:=Tryz.underlying3
 a3:=Tryz.isAgg3
 z3:=Tryz.sizeOf3
 v3:=Tryz.zeroValue3
 t4:=Tryz.underlying4
 a4:=Tryz.isAgg4
 z4:=Tryz.sizeOf4
 v4:=Tryz.zeroValue4
 t9:=Tryz.underlying9
 a9:=Tryz.isAgg9
 z9:=Tryz.sizeOf9
 v9:=Tryz.zeroValue9
 t24:=Tryz.underlying64
 a24:=Tryz.isAgg64
 z24:=Tryz.sizeOf64
 v24:=Tryz.zeroValue64 }
open Go.RowKit in
theorem Tryz.strings_CutPrefix (s p:ByteArray) (w:World) :
  Calls xi 170 #[xh s,xh p] w fun e w'=>e=.returned (.tuple #[xh ⟨(Lib.trimPrefix s.data.toList p.data.toList).toArray⟩,.bool (Lib.hasPrefix s.data.toList p.data.toList)])∧w'=w:=Any.strings_CutPrefix Tryz.lays103 s p w
def Tryz.laysM171_ren:Go.Shelf.Ren:=⟨fun | 171=>69 | 243=>124 | 246=>172 | 283=>197 | 284=>198 | 285=>199 | 286=>200 | 129=>222 | 317=>221 | 318=>223 | 319=>224 | 320=>225 | 337=>239 | 338=>240 | n=>n,fun | 3=>3 | 9=>9 | 2=>2 | 4=>4 | 171=>199 | 0=>0 | 53=>90 | 37=>54 | 5=>5 | 173=>202 | 212=>219 | 51=>220 | 20=>20 | 213=>221 | 46=>181 | 232=>250 | 233=>251 | n=>n,fun | 17=>1 | 18=>6 | 19=>7 | n=>n⟩
theorem Tryz.laysM171:Go.Proofs.LaysM.n171 xi Tryz.laysM171_ren:={
 mixed:=by kernel_rfl
 f129:=Tryz.func222.trans (congrArg some (by kernel_rfl))
 f171:=Tryz.func69.trans (congrArg some (by kernel_rfl))
 f243:=Tryz.func124.trans (congrArg some (by kernel_rfl))
 f246:=Tryz.func172.trans (congrArg some (by kernel_rfl))
 f283:=Tryz.func197.trans (congrArg some (by kernel_rfl))
 f284:=Tryz.func198.trans (congrArg some (by kernel_rfl))
 f285:=Tryz.func199.trans (congrArg some (by kernel_rfl))
 f286:=Tryz.func200.trans (congrArg some (by kernel_rfl))
 f317:=Tryz.func221.trans (congrArg some (by kernel_rfl))
 f318:=Tryz.func223.trans (congrArg some (by kernel_rfl))
 f319:=Tryz.func224.trans (congrArg some (by kernel_rfl))
 f320:=Tryz.func225.trans (congrArg some (by kernel_rfl))
 f337:=Tryz.func239.trans (congrArg some (by kernel_rfl))
 f338:=Tryz.func240.trans (congrArg some (by kernel_rfl))
 t0:=Tryz.underlying0
 a0:=Tryz.isAgg0
 z0:=Tryz.sizeOf0
 v0:=Tryz.zeroValue0
 t2:=Tryz.underlying2
 a2:=Tryz.isAgg2
 z2:=Tryz.sizeOf2
 v2:=Tryz.zeroValue2
 t3:=Tryz.underlying3
 a3:=Tryz.isAgg3
 z3:=Tryz.sizeOf3
 v3:=Tryz.zeroValue3
 t4:=Tryz.underlying4
 a4:=Tryz.isAgg4
 z4:=Tryz.sizeOf4
 v4:=Tryz.zeroValue4
 t5:=Tryz.underlying5
 a5:=Tryz.isAgg5
 z5:=Tryz.sizeOf5
 v5:=Tryz.zeroValue5
 t9:=Tryz.underlying9
 a9:=Tryz.isAgg9
 z9:=Tryz.sizeOf9
 v9:=Tryz.zeroValue9
 t20:=Tryz.underlying20
 a20:=Tryz.isAgg20
 z20:=Tryz.sizeOf20
 v20:=Tryz.zeroValue20
 t37:=Tryz.underlying54
 a37:=Tryz.isAgg54
 z37:=Tryz.sizeOf54
 v37:=Tryz.zeroValue54
 t46:=Tryz.underlying181
 a46:=Tryz.isAgg181
 z46:=Tryz.sizeOf181
 v46:=Tryz.zeroValue181
 t51:=Tryz.underlying220
 a51:=Tryz.isAgg220
 z51:=Tryz.sizeOf220
 v51:=Tryz.zeroValue220
 t53:=Tryz.underlying90
 a53:=Tryz.isAgg90
 z53:=Tryz.sizeOf90
 v53:=Tryz.zeroValue90
 t171:=Tryz.underlying199
 a171:=Tryz.isAgg199
 z171:=Tryz.sizeOf199
 v171:=Tryz.zeroValue199
 t173:=Tryz.underlying202
 a173:=Tryz.isAgg202
 z173:=Tryz.sizeOf202
 v173:=Tryz.zeroValue202
 t212:=Tryz.underlying219
 a212:=Tryz.isAgg219
 z212:=Tryz.sizeOf219
 v212:=Tryz.zeroValue219
 t213:=Tryz.underlying221
 a213:=Tryz.isAgg221
 z213:=Tryz.sizeOf221
 t232:=Tryz.underlying250
 a232:=Tryz.isAgg250
 z232:=Tryz.sizeOf250
 v232:=Tryz.zeroValue250
 t233:=Tryz.underlying251
 a233:=Tryz.isAgg251
 z233:=Tryz.sizeOf251
 v233:=Tryz.zeroValue251
 g17:=by kernel_rfl
 g18:=by kernel_rfl
 g19:=by kernel_rfl
 i0:=by kernel_rfl
 i2:=by kernel_rfl
 i3:=by kernel_rfl
 i4:=by kernel_rfl
 i5:=by kernel_rfl
 i9:=by kernel_rfl
 i20:=by kernel_rfl
 i37:=by kernel_rfl
 i46:=by kernel_rfl
 i51:=by kernel_rfl
 i53:=by kernel_rfl
 i171:=by kernel_rfl
 i173:=by kernel_rfl
 i212:=by kernel_rfl
 i232:=by kernel_rfl
 i233:=by kernel_rfl
 m17:=by kernel_rfl
 m18:=by kernel_rfl
 m19:=by kernel_rfl }
open Go.RowKit Go.Sort Go.Lib in
theorem Tryz.strconv_Itoa (n : Int) (h0 : -9223372036854775808 ≤ n) (h1 : n ≤ 9223372036854775807) (w : World) (JY : Lib.TabIs xi w "internal/strconv.uint64pow10" .u64 Lib.pow10Tab) :
  Calls xi 69 #[O U n] w fun e w'=>e=.returned (xh ⟨(Lib.itoa n).toArray⟩)∧∃ k os,w'=grow (w.drewN k) os:=Any.strconv_Itoa Tryz.laysM171 n h0 h1 w JY
def Tryz.laysC172_ren:Go.Shelf.Ren:=⟨fun | 172=>150 | 244=>181 | 245=>182 | 247=>206 | 279=>207 | 280=>208 | 281=>209 | 282=>210 | 287=>227 | 316=>228 | 171=>69 | 205=>229 | 321=>241 | 322=>242 | 243=>124 | 246=>172 | 283=>197 | 284=>198 | 285=>199 | 286=>200 | 129=>222 | 317=>221 | 318=>223 | 319=>224 | 320=>225 | 337=>239 | 338=>240 | n=>n,fun | 9=>9 | 3=>3 | 75=>173 | 76=>174 | 4=>4 | 5=>5 | 167=>206 | 37=>54 | 0=>0 | 85=>207 | 2=>2 | 168=>209 | 53=>90 | 175=>225 | 46=>181 | 210=>228 | 127=>245 | 145=>248 | 143=>246 | 21=>21 | 171=>199 | 173=>202 | 212=>219 | 51=>220 | 20=>20 | 213=>221 | 232=>250 | 233=>251 | 80=>234 | n=>n,fun | 15=>2 | 16=>3 | 17=>1 | 18=>6 | 19=>7 | n=>n⟩
theorem Tryz.laysC172:Go.Proofs.LaysC.n172 xi Tryz.laysC172_ren:={
 mixed:=by kernel_rfl
 f129:=Tryz.func222.trans (congrArg some (by kernel_rfl))
 f171:=Tryz.func69.trans (congrArg some (by kernel_rfl))
 f172:=Tryz.func150.trans (congrArg some (by kernel_rfl))
 f205:=Tryz.func229.trans (congrArg some (by kernel_rfl))
 f243:=Tryz.func124.trans (congrArg some (by kernel_rfl))
 f244:=Tryz.func181.trans (congrArg some (by kernel_rfl))
 f245:=Tryz.func182.trans (congrArg some (by kernel_rfl))
 f246:=Tryz.func172.trans (congrArg some (by kernel_rfl))
 f247:=Tryz.func206.trans (congrArg some (by kernel_rfl))
 f279:=Tryz.func207.trans (congrArg some (by kernel_rfl))
 f280:=Tryz.func208.trans (congrArg some (by kernel_rfl))
 f281:=Tryz.func209.trans (congrArg some (by kernel_rfl))
 f282:=Tryz.func210.trans (congrArg some (by kernel_rfl))
 f283:=Tryz.func197.trans (congrArg some (by kernel_rfl))
 f284:=Tryz.func198.trans (congrArg some (by kernel_rfl))
 f285:=Tryz.func199.trans (congrArg some (by kernel_rfl))
 f286:=Tryz.func200.trans (congrArg some (by kernel_rfl))
 f287:=Tryz.func227.trans (congrArg some (by kernel_rfl))
 f316:=Tryz.func228.trans (congrArg some (by kernel_rfl))
 f317:=Tryz.func221.trans (congrArg some (by kernel_rfl))
 f318:=Tryz.func223.trans (congrArg some (by kernel_rfl))
 f319:=Tryz.func224.trans (congrArg some (by kernel_rfl))
 f320:=Tryz.func225.trans (congrArg some (by kernel_rfl))
 f321:=Tryz.func241.trans (congrArg some (by kernel_rfl))
 f322:=Tryz.func242.trans (congrArg some (by kernel_rfl))
 f337:=Tryz.func239.trans (congrArg some (by kernel_rfl))
 f338:=Tryz.func240.trans (congrArg some (by kernel_rfl))
 t0:=Tryz.underlying0
 a0:=Tryz.isAgg0
 z0:=Tryz.sizeOf0
 v0:=Tryz.zeroValue0
 t2:=Tryz.underlying2
 a2:=Tryz.isAgg2
 z2:=Tryz.sizeOf2
 v2:=Tryz.zeroValue2
 t3:=Tryz.underlying3
 a3:=Tryz.isAgg3
 z3:=Tryz.sizeOf3
 v3:=Tryz.zeroValue3
 t4:=Tryz.underlying4
 a4:=Tryz.isAgg4
 z4:=Tryz.sizeOf4
 v4:=Tryz.zeroValue4
 t5:=Tryz.underlying5
 a5:=Tryz.isAgg5
 z5:=Tryz.sizeOf5
 v5:=Tryz.zeroValue5
 t9:=Tryz.underlying9
 a9:=Tryz.isAgg9
 z9:=Tryz.sizeOf9
 v9:=Tryz.zeroValue9
 t20:=Tryz.underlying20
 a20:=Tryz.isAgg20
 z20:=Tryz.sizeOf20
 v20:=Tryz.zeroValue20
 t21:=Tryz.underlying21
 a21:=Tryz.isAgg21
 z21:=Tryz.sizeOf21
 v21:=Tryz.zeroValue21
 t37:=Tryz.underlying54
 a37:=Tryz.isAgg54
 z37:=Tryz.sizeOf54
 v37:=Tryz.zeroValue54
 t46:=Tryz.underlying181
 a46:=Tryz.isAgg181
 z46:=Tryz.sizeOf181
 v46:=Tryz.zeroValue181
 t51:=Tryz.underlying220
 a51:=Tryz.isAgg220
 z51:=Tryz.sizeOf220
 v51:=Tryz.zeroValue220
 t53:=Tryz.underlying90
 a53:=Tryz.isAgg90
 z53:=Tryz.sizeOf90
 v53:=Tryz.zeroValue90
 t75:=Tryz.underlying173
 a75:=Tryz.isAgg173
 z75:=Tryz.sizeOf173
 v75:=Tryz.zeroValue173
 t76:=Tryz.underlying174
 a76:=Tryz.isAgg174
 z76:=Tryz.sizeOf174
 v76:=Tryz.zeroValue174
 t85:=Tryz.underlying207
 a85:=Tryz.isAgg207
 z85:=Tryz.sizeOf207
 v85:=Tryz.zeroValue207
 t127:=Tryz.underlying245
 a127:=Tryz.isAgg245
 z127:=Tryz.sizeOf245
 v127:=Tryz.zeroValue245
 t143:=Tryz.underlying246
 a143:=Tryz.isAgg246
 z143:=Tryz.sizeOf246
 v143:=Tryz.zeroValue246
 t145:=Tryz.underlying248
 a145:=Tryz.isAgg248
 z145:=Tryz.sizeOf248
 v145:=Tryz.zeroValue248
 t167:=Tryz.underlying206
 a167:=Tryz.isAgg206
 z167:=Tryz.sizeOf206
 v167:=Tryz.zeroValue206
 t168:=Tryz.underlying209
 a168:=Tryz.isAgg209
 z168:=Tryz.sizeOf209
 v168:=Tryz.zeroValue209
 t171:=Tryz.underlying199
 a171:=Tryz.isAgg199
 z171:=Tryz.sizeOf199
 v171:=Tryz.zeroValue199
 t173:=Tryz.underlying202
 a173:=Tryz.isAgg202
 z173:=Tryz.sizeOf202
 v173:=Tryz.zeroValue202
 t175:=Tryz.underlying225
 a175:=Tryz.isAgg225
 z175:=Tryz.sizeOf225
 v175:=Tryz.zeroValue225
 t210:=Tryz.underlying228
 a210:=Tryz.isAgg228
 z210:=Tryz.sizeOf228
 v210:=Tryz.zeroValue228
 t212:=Tryz.underlying219
 a212:=Tryz.isAgg219
 z212:=Tryz.sizeOf219
 v212:=Tryz.zeroValue219
 t213:=Tryz.underlying221
 a213:=Tryz.isAgg221
 z213:=Tryz.sizeOf221
 t232:=Tryz.underlying250
 a232:=Tryz.isAgg250
 z232:=Tryz.sizeOf250
 v232:=Tryz.zeroValue250
 t233:=Tryz.underlying251
 a233:=Tryz.isAgg251
 z233:=Tryz.sizeOf251
 v233:=Tryz.zeroValue251
 g15:=by kernel_rfl
 g16:=by kernel_rfl
 g17:=by kernel_rfl
 g18:=by kernel_rfl
 g19:=by kernel_rfl
 t80:=Tryz.underlying234
 a80:=Tryz.isAgg234
 z80:=Tryz.sizeOf234
 v80:=Tryz.zeroValue234
 i0:=by kernel_rfl
 i2:=by kernel_rfl
 i3:=by kernel_rfl
 i4:=by kernel_rfl
 i5:=by kernel_rfl
 i9:=by kernel_rfl
 i20:=by kernel_rfl
 i21:=by kernel_rfl
 i37:=by kernel_rfl
 i46:=by kernel_rfl
 i51:=by kernel_rfl
 i53:=by kernel_rfl
 i75:=by kernel_rfl
 i76:=by kernel_rfl
 i80:=by kernel_rfl
 i85:=by kernel_rfl
 i127:=by kernel_rfl
 i143:=by kernel_rfl
 i145:=by kernel_rfl
 i167:=by kernel_rfl
 i168:=by kernel_rfl
 i171:=by kernel_rfl
 i173:=by kernel_rfl
 i175:=by kernel_rfl
 i210:=by kernel_rfl
 i212:=by kernel_rfl
 i232:=by kernel_rfl
 i233:=by kernel_rfl
 m15:=by kernel_rfl
 m16:=by kernel_rfl
 m17:=by kernel_rfl
 m18:=by kernel_rfl
 m19:=by kernel_rfl
 c0:=by kernel_rfl
 c2:=by kernel_rfl
 c3:=by kernel_rfl
 c4:=by kernel_rfl
 c5:=by kernel_rfl
 c9:=by kernel_rfl
 c20:=by kernel_rfl
 c21:=by kernel_rfl
 c37:=by kernel_rfl
 c46:=by kernel_rfl
 c51:=by kernel_rfl
 c53:=by kernel_rfl
 c75:=by kernel_rfl
 c76:=by kernel_rfl
 c80:=by kernel_rfl
 c85:=by kernel_rfl
 c127:=by kernel_rfl
 c143:=by kernel_rfl
 c145:=by kernel_rfl
 c167:=by kernel_rfl
 c168:=by kernel_rfl
 c171:=by kernel_rfl
 c173:=by kernel_rfl
 c175:=by kernel_rfl
 c210:=by kernel_rfl
 c212:=by kernel_rfl
 c213:=by kernel_rfl
 c232:=by kernel_rfl
 c233:=by kernel_rfl }
open Go.RowKit in
theorem Tryz.strconv_Atoi_ok (s:ByteArray) (JZ:s.size≤9223372036854775806) (v:Int) (h:Lib.atoiAll s.data.toList=.ok v) (w:World) :
  Calls xi 150 #[xh s] w fun e w'=>e=.returned (.tuple #[O U v,.nilIface])∧(w'=w ∨ ∃ t,w'=Lib.bytesWorld w 5 t):=Any.strconv_Atoi_ok Tryz.laysC172 s JZ v h w
open Go.RowKit in
theorem Tryz.strconv_Atoi_syntax (s:ByteArray) (Fp:s.size≤281474976710656) (h:Lib.atoiAll s.data.toList=Lib.atoiAll []) (ev:Value) (w:World) (hv:w.cell? ⟨2,0,none⟩=some ev) (Ka:ev=.nilIface ∨ ∃ te pe,ev=.iface te pe) :
  Calls xi 150 #[xh s] w fun e w'=>∃ N,e=.returned (.tuple #[O U (0),.iface 209 (.pointer (some ⟨N,0,none⟩))])∧w.heap.size≤N∧w'.heap[N]?=some (.cells #[xh ⟨#[65,116,111,105]⟩,xh s,ev] 228 (0,0))∧Below w.heap.size w w':=Any.strconv_Atoi_syntax Tryz.laysC172 s Fp (h.trans rfl) ev w hv Ka
open Go.RowKit in
theorem Tryz.strconv_Atoi_range (s:ByteArray) (Fp:s.size≤281474976710656) (h:Lib.atoiAll s.data.toList=.range) (ev:Value) (w:World) (hv:w.cell? ⟨3,0,none⟩=some ev) (Ka:ev=.nilIface ∨ ∃ te pe,ev=.iface te pe) :
  Calls xi 150 #[xh s] w fun e w'=>∃ N,e=.returned (.tuple #[O U (Lib.atoiSat s.data.toList),.iface 209 (.pointer (some ⟨N,0,none⟩))])∧w.heap.size≤N∧w'.heap[N]?=some (.cells #[xh ⟨#[65,116,111,105]⟩,xh s,ev] 228 (0,0))∧Below w.heap.size w w':=Any.strconv_Atoi_range Tryz.laysC172 s Fp h ev w hv Ka
def Tryz.lays219_ren:Go.Shelf.Ren:=⟨fun | 219=>180 | 217=>168 | 225=>203 | 224=>204 | 267=>205 | 266=>193 | 314=>226 | n=>n,fun | 9=>9 | 3=>3 | 4=>4 | 5=>5 | 46=>181 | 146=>223 | 51=>220 | n=>n,fun | 1=>0 | n=>n⟩
theorem Tryz.lays219:Go.Proofs.Lays.n219 xi Tryz.lays219_ren:={
 mixed:=by kernel_rfl
 f217:=Tryz.func168.trans (congrArg some (by kernel_rfl))
 f219:=Tryz.func180.trans (congrArg some (by kernel_rfl))
 f224:=Tryz.func204.trans (congrArg some (by kernel_rfl))
 f225:=Tryz.func203.trans (congrArg some (by kernel_rfl))
 f266:=Tryz.func193.trans (congrArg some (by kernel_rfl))
 f267:=Tryz.func205.trans (congrArg some (by kernel_rfl))
 f314:=Tryz.func226.trans (congrArg some (by kernel_rfl))
 t3:=Tryz.underlying3
 a3:=Tryz.isAgg3
 z3:=Tryz.sizeOf3
 v3:=Tryz.zeroValue3
 t4:=Tryz.underlying4
 a4:=Tryz.isAgg4
 z4:=Tryz.sizeOf4
 v4:=Tryz.zeroValue4
 t5:=Tryz.underlying5
 a5:=Tryz.isAgg5
 z5:=Tryz.sizeOf5
 v5:=Tryz.zeroValue5
 t9:=Tryz.underlying9
 a9:=Tryz.isAgg9
 z9:=Tryz.sizeOf9
 v9:=Tryz.zeroValue9
 t46:=Tryz.underlying181
 a46:=Tryz.isAgg181
 z46:=Tryz.sizeOf181
 v46:=Tryz.zeroValue181
 t51:=Tryz.underlying220
 a51:=Tryz.isAgg220
 z51:=Tryz.sizeOf220
 v51:=Tryz.zeroValue220
 t146:=Tryz.underlying223
 a146:=Tryz.isAgg223
 z146:=Tryz.sizeOf223
 v146:=Tryz.zeroValue223
 g1:=by kernel_rfl }
open Go.RowKit Go.Lib in
theorem Tryz.stringslite_Index_one (s:ByteArray) (c:UInt8) (w:World) :
  Calls xi 180 #[xh s,xh ⟨#[c]⟩] w fun e w'=>e=.returned (O U (Lib.indexByte s.data.toList c))∧w'=w:=Any.stringslite_Index_one Tryz.lays219 s c w
def Tryz.lays144_ren:Go.Shelf.Ren:=⟨fun | 144=>95 | 143=>149 | 219=>180 | 217=>168 | 225=>203 | 224=>204 | 267=>205 | 266=>193 | 314=>226 | n=>n,fun | 9=>9 | 4=>4 | 3=>3 | 5=>5 | 46=>181 | 146=>223 | 51=>220 | n=>n,fun | 1=>0 | n=>n⟩
theorem Tryz.lays144:Go.Proofs.Lays.n144 xi Tryz.lays144_ren:={
 mixed:=by kernel_rfl
 f143:=Tryz.func149.trans (congrArg some (by kernel_rfl))
 f144:=Tryz.func95.trans (congrArg some (by kernel_rfl))
 f217:=Tryz.func168.trans (congrArg some (by kernel_rfl))
 f219:=Tryz.func180.trans (congrArg some (by kernel_rfl))
 f224:=Tryz.func204.trans (congrArg some (by kernel_rfl))
 f225:=Tryz.func203.trans (congrArg some (by kernel_rfl))
 f266:=Tryz.func193.trans (congrArg some (by kernel_rfl))
 f267:=Tryz.func205.trans (congrArg some (by kernel_rfl))
 f314:=Tryz.func226.trans (congrArg some (by kernel_rfl))
 t3:=Tryz.underlying3
 a3:=Tryz.isAgg3
 z3:=Tryz.sizeOf3
 v3:=Tryz.zeroValue3
 t4:=Tryz.underlying4
 a4:=Tryz.isAgg4
 z4:=Tryz.sizeOf4
 v4:=Tryz.zeroValue4
 t5:=Tryz.underlying5
 a5:=Tryz.isAgg5
 z5:=Tryz.sizeOf5
 v5:=Tryz.zeroValue5
 t9:=Tryz.underlying9
 a9:=Tryz.isAgg9
 z9:=Tryz.sizeOf9
 v9:=Tryz.zeroValue9
 t46:=Tryz.underlying181
 a46:=Tryz.isAgg181
 z46:=Tryz.sizeOf181
 v46:=Tryz.zeroValue181
 t51:=Tryz.underlying220
 a51:=Tryz.isAgg220
 z51:=Tryz.sizeOf220
 v51:=Tryz.zeroValue220
 t146:=Tryz.underlying223
 a146:=Tryz.isAgg223
 z146:=Tryz.sizeOf223
 v146:=Tryz.zeroValue223
 g1:=by kernel_rfl }
open Go.RowKit Go.Lib in
theorem Tryz.strings_Contains_one (s:ByteArray) (c:UInt8) (w:World) :
  Calls xi 95 #[xh s,xh ⟨#[c]⟩] w fun e w'=>e=.returned (.bool (decide (0≤Lib.indexByte s.data.toList c)))∧w'=w:=Any.strings_Contains_one Tryz.lays144 s c w
def Tryz.lays148_ren:Go.Shelf.Ren:=⟨fun | 148=>194 | 222=>218 | 223=>219 | 269=>238 | n=>n,fun | 9=>9 | 3=>3 | 4=>4 | 5=>5 | 146=>223 | 51=>220 | 46=>181 | n=>n,fun | n=>n⟩
theorem Tryz.lays148:Go.Proofs.Lays.n148 xi Tryz.lays148_ren:={
 mixed:=by kernel_rfl
 f148:=Tryz.func194.trans (congrArg some (by kernel_rfl))
 f222:=Tryz.func218.trans (congrArg some (by kernel_rfl))
 f223:=Tryz.func219.trans (congrArg some (by kernel_rfl))
 f269:=Tryz.func238.trans (congrArg some (by kernel_rfl))
 t3:=Tryz.underlying3
 a3:=Tryz.isAgg3
 z3:=Tryz.sizeOf3
 v3:=Tryz.zeroValue3
 t4:=Tryz.underlying4
 a4:=Tryz.isAgg4
 z4:=Tryz.sizeOf4
 v4:=Tryz.zeroValue4
 t5:=Tryz.underlying5
 a5:=Tryz.isAgg5
 z5:=Tryz.sizeOf5
 v5:=Tryz.zeroValue5
 t9:=Tryz.underlying9
 a9:=Tryz.isAgg9
 z9:=Tryz.sizeOf9
 v9:=Tryz.zeroValue9
 t46:=Tryz.underlying181
 a46:=Tryz.isAgg181
 z46:=Tryz.sizeOf181
 v46:=Tryz.zeroValue181
 t51:=Tryz.underlying220
 a51:=Tryz.isAgg220
 z51:=Tryz.sizeOf220
 v51:=Tryz.zeroValue220
 t146:=Tryz.underlying223
 a146:=Tryz.isAgg223
 z146:=Tryz.sizeOf223
 v146:=Tryz.zeroValue223 }
open Go.RowKit Go.Lib in
theorem Tryz.strings_LastIndex (s sub:ByteArray) (hs:s.size < 4611686018427387904) (w:World) :
  Calls xi 194 #[xh s,xh sub] w fun e w'=>e=.returned (O U (Lib.lastIndex s.data.toList sub.data.toList))∧w'=w:=Any.strings_LastIndex Tryz.lays148 s sub hs w
def Tryz.lays146_ren:Go.Shelf.Ren:=⟨fun | 146=>59 | 221=>107 | 268=>161 | 138=>162 | 143=>149 | 195=>188 | 197=>189 | 218=>190 | 219=>180 | 260=>217 | 217=>168 | 225=>203 | 224=>204 | 267=>205 | 266=>193 | 314=>226 | n=>n,fun | 9=>9 | 31=>49 | 3=>3 | 4=>4 | 0=>0 | 105=>195 | 21=>21 | 5=>5 | 46=>181 | 119=>239 | 139=>242 | 138=>241 | 146=>223 | 51=>220 | n=>n,fun | 1=>0 | 3=>4 | 4=>5 | n=>n⟩
theorem Tryz.lays146:Go.Proofs.Lays.n146 xi Tryz.lays146_ren:={
 mixed:=by kernel_rfl
 f138:=Tryz.func162.trans (congrArg some (by kernel_rfl))
 f143:=Tryz.func149.trans (congrArg some (by kernel_rfl))
 f146:=Tryz.func59.trans (congrArg some (by kernel_rfl))
 f195:=Tryz.func188.trans (congrArg some (by kernel_rfl))
 f197:=Tryz.func189.trans (congrArg some (by kernel_rfl))
 f217:=Tryz.func168.trans (congrArg some (by kernel_rfl))
 f218:=Tryz.func190.trans (congrArg some (by kernel_rfl))
 f219:=Tryz.func180.trans (congrArg some (by kernel_rfl))
 f221:=Tryz.func107.trans (congrArg some (by kernel_rfl))
 f224:=Tryz.func204.trans (congrArg some (by kernel_rfl))
 f225:=Tryz.func203.trans (congrArg some (by kernel_rfl))
 f260:=Tryz.func217.trans (congrArg some (by kernel_rfl))
 f266:=Tryz.func193.trans (congrArg some (by kernel_rfl))
 f267:=Tryz.func205.trans (congrArg some (by kernel_rfl))
 f268:=Tryz.func161.trans (congrArg some (by kernel_rfl))
 f314:=Tryz.func226.trans (congrArg some (by kernel_rfl))
 t0:=Tryz.underlying0
 a0:=Tryz.isAgg0
 z0:=Tryz.sizeOf0
 v0:=Tryz.zeroValue0
 t3:=Tryz.underlying3
 a3:=Tryz.isAgg3
 z3:=Tryz.sizeOf3
 v3:=Tryz.zeroValue3
 t4:=Tryz.underlying4
 a4:=Tryz.isAgg4
 z4:=Tryz.sizeOf4
 v4:=Tryz.zeroValue4
 t5:=Tryz.underlying5
 a5:=Tryz.isAgg5
 z5:=Tryz.sizeOf5
 v5:=Tryz.zeroValue5
 t9:=Tryz.underlying9
 a9:=Tryz.isAgg9
 z9:=Tryz.sizeOf9
 v9:=Tryz.zeroValue9
 t21:=Tryz.underlying21
 a21:=Tryz.isAgg21
 z21:=Tryz.sizeOf21
 v21:=Tryz.zeroValue21
 t31:=Tryz.underlying49
 a31:=Tryz.isAgg49
 z31:=Tryz.sizeOf49
 v31:=Tryz.zeroValue49
 t46:=Tryz.underlying181
 a46:=Tryz.isAgg181
 z46:=Tryz.sizeOf181
 v46:=Tryz.zeroValue181
 t51:=Tryz.underlying220
 a51:=Tryz.isAgg220
 z51:=Tryz.sizeOf220
 v51:=Tryz.zeroValue220
 t105:=Tryz.underlying195
 a105:=Tryz.isAgg195
 z105:=Tryz.sizeOf195
 v105:=Tryz.zeroValue195
 t119:=Tryz.underlying239
 a119:=Tryz.isAgg239
 z119:=Tryz.sizeOf239
 t138:=Tryz.underlying241
 a138:=Tryz.isAgg241
 z138:=Tryz.sizeOf241
 v138:=Tryz.zeroValue241
 t139:=Tryz.underlying242
 a139:=Tryz.isAgg242
 z139:=Tryz.sizeOf242
 v139:=Tryz.zeroValue242
 t146:=Tryz.underlying223
 a146:=Tryz.isAgg223
 z146:=Tryz.sizeOf223
 v146:=Tryz.zeroValue223
 g1:=by kernel_rfl
 g3:=by kernel_rfl
 g4:=by kernel_rfl }
open Go.RowKit Go.Lib in
theorem Tryz.strings_Split (s sep:ByteArray) (m:Int) (w:World) (hs:s.size < 4294967281) (hm:w.cell? ⟨0,0,none⟩=some (O U m)) (h1:1≤sep.size) :
  Calls xi 59 #[xh s,xh sep] w fun e w' =>
   e=.returned (F (some ⟨w.heap.size,0,none⟩) (Lib.countB s sep+1) (Lib.countB s sep+1))∧w'=w.alloc (.cells ((Lib.splitB sep 0 (Lib.countB s sep) s).map Value.string).toArray 9):=Any.strings_Split Tryz.lays146 (by kernel_rfl) s sep m w hs hm h1
def Tryz.lays107_ren:Go.Shelf.Ren:=⟨fun | 107=>78 | 108=>129 | n=>n,fun | 28=>100 | 3=>3 | 4=>4 | 0=>0 | n=>n,fun | n=>n⟩
theorem Tryz.lays107:Go.Proofs.Lays.n107 xi Tryz.lays107_ren:={
 mixed:=by kernel_rfl
 f107:=Tryz.func78.trans (congrArg some (by kernel_rfl))
 f108:=Tryz.func129.trans (congrArg some (by kernel_rfl))
 t0:=Tryz.underlying0
 a0:=Tryz.isAgg0
 z0:=Tryz.sizeOf0
 v0:=Tryz.zeroValue0
 t3:=Tryz.underlying3
 a3:=Tryz.isAgg3
 z3:=Tryz.sizeOf3
 v3:=Tryz.zeroValue3
 t4:=Tryz.underlying4
 a4:=Tryz.isAgg4
 z4:=Tryz.sizeOf4
 v4:=Tryz.zeroValue4
 t28:=Tryz.underlying100
 a28:=Tryz.isAgg100
 z28:=Tryz.sizeOf100
 v28:=Tryz.zeroValue100 }
open Go.Lib in
theorem Tryz.slices_Contains_int (b off n c:Nat) (zs:List Int) (x:Int) (w:World) (hz:n≤zs.length) (Ae:n≤9223372036854775807) (hc:∀ j,j < zs.length→w.cell? ⟨b,off+j,none⟩=some (O U (zs.getD j 0))) :
  Calls xi 78 #[F (some ⟨b,off,none⟩) n c,O U x] w fun e w'=>e=.returned (.bool ((zs.take n).contains x))∧w'=w:=Any.slices_Contains_int Tryz.lays107 b off n c zs x w hz Ae hc
end Go.Proofs
namespace Go.Proofs.YtoeoimhemojdeaaGreatDoor
open Go.RowKit
theorem jQ {c:UInt8} : iB c=true ↔ 32≤c.toNat∧c.toNat≤126∧c.toNat ≠ 35:=by
 unfold iB
 simp only [Bool.and_eq_true,decide_eq_true_eq,bne_iff_ne,ne_eq,and_assoc]
 constructor <;> (rintro ⟨h1,h2,h3⟩; refine ⟨h1,h2,fun h=>h3 ?_⟩)
 ·exact UInt8.toNat_inj.1 h
 ·rw [h]; rfl
theorem oq {s:ByteArray} {k:Nat} (h:k < s.size):bD ((bl s).drop k)=(iB s[k] && bD ((bl s).drop (k+1))):=by rw [kG h]; rfl
theorem qo (s:ByteArray) (m:Int) (w:World) (hs:s.size≤1000000000) :
  Calls xi 83 #[xh s,O U m] w fun e w'=>e=.returned (.bool (bD (bl s) && decide ((s.size:Int)≤m)))∧w=w':=by
 have HF:Hid (bD ((bl s).drop 0)=bD (bl s)):=rfl
 go_enter Tryz.func83,Tryz.ntmps83
 go_wp2
 go_loop [5] (fun i=>∃ k:Nat,k≤s.size∧i=O U k∧Hid (bD ((bl s).drop k)=bD (bl s))) (fun i=>s.size - (intOf i).toNat)
 case atStart=>exact ⟨0,Nat.zero_le _,rfl,HF⟩
 case round =>
  obtain ⟨k,hk,rfl,HR⟩:=hrel
  by_cases xu:k < s.size
  ·have HD:=jZ (oq xu)
   have u1:(s[k].toNat:Int)≤255:=by have:=UInt8.toNat_lt s[k]; omega
   cases hp:iB s[k]
   ·rw [hp] at HD
    have HN:Hid (bD (bl s)=false):=by rw [Hid,← HR.out,HD.out]; rfl
    by_cases h1:bX (s[k].toNat:Int) 32 126=true
    ·have h2:((s[k].toNat:Int) == 35)=true:=by
      rw [bV] at h1
      have : ¬ (32≤s[k].toNat∧s[k].toNat≤126∧s[k].toNat ≠ 35):=fun h=>by rw [jQ.2 h] at hp; cases hp
      simp; omega
     clear hp
     have H1:=jZ h1; clear h1
     go_wp2_with (go_at_call 134; refine (aI _ _ _ _).mono ?_; rw [H1.out]; rintro e w' ⟨rfl,rfl⟩)
     go_ret
     exact ⟨by rw [HN.out]; rfl,rfl⟩
    ·have h1' : bX (s[k].toNat:Int) 32 126=false:=by simpa using h1
     clear hp h1
     have H1:=jZ h1'; clear h1'
     go_wp2_with (go_at_call 134; refine (aI _ _ _ _).mono ?_; rw [H1.out]; rintro e w' ⟨rfl,rfl⟩)
     go_ret
     exact ⟨by rw [HN.out]; rfl,rfl⟩
   ·rw [hp] at HD
    rw [jQ] at hp
    have H1:Hid (bX (s[k].toNat:Int) 32 126=true):=by rw [Hid,bV]; omega
    have h2:((s[k].toNat:Int) == 35)=false:=by simp; omega
    clear hp
    go_wp2_with (go_at_call 134; refine (aI _ _ _ _).mono ?_; rw [H1.out]; rintro e w' ⟨rfl,rfl⟩)
    go_round
    case rel=>exact ⟨k+1,oM,by go_num,by have h:=HR.out; rw [HD.out] at h; exact h⟩
    case measure=>simp [intOf]; omega
  ·have HK:Hid (bD (bl s)=true):=by
    have h1:=HR.out
    rw [List.drop_eq_nil_of_le (by rw [ao]; omega)] at h1; exact h1.symm
   go_wp2
   go_ret
   exact ⟨by rw [HK.out]; rfl,rfl⟩
theorem nv (s:ByteArray) (w:World) (hs:s.size≤1000000000) :
  Calls xi 94 #[xh s] w fun e w'=>e=.returned (.bool (bD (bl s)))∧w=w':=by
 have HF:Hid (bD ((bl s).drop 0)=bD (bl s)):=rfl
 go_enter Tryz.func94,Tryz.ntmps94
 go_wp2
 go_loop [3,6] (fun _ i=>∃ k:Nat,k≤s.size∧i=O U k∧Hid (bD ((bl s).drop k)=bD (bl s))) (fun _ i=>s.size - (intOf i).toNat)
 case atStart=>exact ⟨0,Nat.zero_le _,rfl,HF⟩
 case round =>
  obtain ⟨k,hk,rfl,HR⟩:=hrel
  by_cases xu:k < s.size
  ·have HD:=jZ (oq xu)
   have u1:(s[k].toNat:Int)≤255:=by have:=UInt8.toNat_lt s[k]; omega
   cases hp:iB s[k]
   ·rw [hp] at HD
    have HN:Hid (bD (bl s)=false):=by rw [Hid,← HR.out,HD.out]; rfl
    have MU:(s[k].toNat:Int) < 32 ∨ (32≤(s[k].toNat:Int)∧126 < (s[k].toNat:Int)) ∨ (32≤(s[k].toNat:Int)∧(s[k].toNat:Int)≤126∧(s[k].toNat:Int)=35):=by
     have : ¬ (32≤s[k].toNat∧s[k].toNat≤126∧s[k].toNat ≠ 35):=fun h=>by rw [jQ.2 h] at hp; cases hp
     omega
    clear hp
    rcases MU with h1 | ⟨h1,h2⟩ | ⟨h1,h2,h3⟩
    ·have d1:decide ((s[k].toNat:Int) < 32)=true:=jD h1
     clear h1
     go_wp2
     go_ret
     exact ⟨by rw [HN.out]; rfl,rfl⟩
    ·have d1:decide ((s[k].toNat:Int) < 32)=false:=jE oM
     have d2:decide (126 < (s[k].toNat:Int))=true:=jD h2
     clear h1 h2
     go_wp2
     go_ret
     exact ⟨by rw [HN.out]; rfl,rfl⟩
    ·have d1:decide ((s[k].toNat:Int) < 32)=false:=jE oM
     have d2:decide (126 < (s[k].toNat:Int))=false:=jE oM
     have d3:((s[k].toNat:Int) == 35)=true:=by simp [h3]
     clear h1 h2 h3
     go_wp2
     go_ret
     exact ⟨by rw [HN.out]; rfl,rfl⟩
   ·rw [hp] at HD
    rw [jQ] at hp
    have d1:decide ((s[k].toNat:Int) < 32)=false:=jE oM
    have d2:decide (126 < (s[k].toNat:Int))=false:=jE oM
    have d3:((s[k].toNat:Int) == 35)=false:=by simp; omega
    clear hp
    go_wp2
    go_round
    case rel=>exact ⟨k+1,oM,by go_num,by have h:=HR.out; rw [HD.out] at h; exact h⟩
    case measure=>simp [intOf]; omega
  ·have HK:Hid (bD (bl s)=true):=by
    have h1:=HR.out
    rw [List.drop_eq_nil_of_le (by rw [ao]; omega)] at h1; exact h1.symm
   go_wp2
   go_ret
   exact ⟨by rw [HK.out]; rfl,rfl⟩
def gq (l:List UInt8) (b:UInt8):Bool:=l.contains b
theorem vA {s:ByteArray} {k:Nat} {b:UInt8} (h:k < s.size):gq ((bl s).drop k) b=(decide (s[k]=b) || gq ((bl s).drop (k+1)) b):=by
 unfold gq
 rw [kG h,List.contains_cons]
 congr 1
 rw [Bool.eq_iff_iff]; simp; exact eq_comm
theorem qp (s:ByteArray) (b:UInt8) (w:World) (hs:s.size≤1000000000) :
  Calls xi 84 #[xh s,.int .u8 b.toNat] w fun e w'=>e=.returned (.bool (gq (bl s) b))∧w=w':=by
 have HF:Hid (gq ((bl s).drop 0) b=gq (bl s) b):=rfl
 go_enter Tryz.func84,Tryz.ntmps84
 go_wp2
 go_loop [5] (fun i=>∃ k:Nat,k≤s.size∧i=O U k∧Hid (gq ((bl s).drop k) b=gq (bl s) b)) (fun i=>s.size - (intOf i).toNat)
 case atStart=>exact ⟨0,Nat.zero_le _,rfl,HF⟩
 case round =>
  obtain ⟨k,hk,rfl,HR⟩:=hrel
  by_cases xu:k < s.size
  ·have HD:=jZ (vA (b:=b) xu)
   have hq:=@wE s[k] b
   cases hp:decide (s[k]=b)
   ·rw [hp] at HD hq
    clear hp
    go_wp2
    go_round
    case rel=>exact ⟨k+1,oM,by go_num,by have h:=HR.out; rw [HD.out] at h; exact h⟩
    case measure=>simp [intOf]; omega
   ·rw [hp] at HD hq
    clear hp
    go_wp2
    go_ret
    exact ⟨by rw [← HR.out,HD.out]; rfl,rfl⟩
  ·have HK:Hid (gq (bl s) b=false):=by
    have h1:=HR.out
    rw [List.drop_eq_nil_of_le (by rw [ao]; omega)] at h1; exact h1.symm
   go_wp2
   go_ret
   exact ⟨by rw [HK.out]; rfl,rfl⟩
structure dj where
 c:ByteArray
 r:ByteArray
abbrev dj.val (e:dj):Value:=.agg #[xh e.c,xh e.r]
def dj.enc (e:dj):List Value:=[xh e.c,xh e.r]
theorem dj.enc_len (e:dj):e.enc.length=2:=rfl
def dj.ok (e:dj):Bool:=eX (bl e.c) (bl e.r)
theorem dj.ok_eq (e:dj):e.ok=(decide (1≤e.c.size) && decide (e.c.size≤160) && bD (bl e.c) && !gq (bl e.c) 64 && bD (bl e.r) && decide (e.r.size≤200)):=rfl
def qq (s:ByteArray) (m:Int):Bool:=bD (bl s) && decide ((s.size:Int)≤m)
theorem sx (s:ByteArray) (m:Int) (w:World) (hs:s.size≤1000000000) :
  Calls xi 83 #[xh s,O U m] w fun e w'=>e=.returned (.bool (qq s m))∧w=w':=qo s m w hs
theorem dj.ok_spec (e:dj):e.ok=(decide (1≤e.c.size) && qq e.c 160 && !gq (bl e.c) 64 && qq e.r 200):=by
 rw [dj.ok_eq]
 unfold qq
 have e1:decide ((e.c.size:Int)≤160)=decide (e.c.size≤160):=by rw [Bool.eq_iff_iff]; simp; omega
 have e2:decide ((e.r.size:Int)≤200)=decide (e.r.size≤200):=by rw [Bool.eq_iff_iff]; simp; omega
 rw [e1,e2]
 cases decide (1≤e.c.size) <;> cases decide (e.c.size≤160) <;> cases bD (bl e.c) <;> cases gq (bl e.c) 64 <;> cases bD (bl e.r) <;> simp
theorem dj.ok_impl (e:dj):e.ok=(bX e.c.size 1 160 && decide ((e.r.size:Int)≤200) && bD (bl e.c) && bD (bl e.r) && !gq (bl e.c) 64):=by
 rw [dj.ok_eq]
 have e1:bX e.c.size 1 160=(decide (1≤e.c.size) && decide (e.c.size≤160)):=by rw [Bool.eq_iff_iff]; simp [bX]; omega
 have e2:decide ((e.r.size:Int)≤200)=decide (e.r.size≤200):=by rw [Bool.eq_iff_iff]; simp; omega
 rw [e1,e2]
 cases decide (1≤e.c.size) <;> cases decide (e.c.size≤160) <;> cases bD (bl e.c) <;> cases bD (bl e.r) <;> cases gq (bl e.c) 64 <;> simp
theorem lf (s:ByteArray) (b:UInt8) (w:World):Calls xi 95 #[xh s,xh ⟨#[b]⟩] w fun e w'=>e=.returned (.bool (gq (bl s) b))∧w=w':=by
 refine (Tryz.strings_Contains_one s b w).mono ?_
 rintro e w' ⟨rfl,rfl⟩
 refine ⟨?_,rfl⟩
 congr 2
 unfold gq
 rw [← qi]
 unfold Lib.contains
 rw [Bool.eq_iff_iff]
 simp only [decide_eq_true_eq]
 have h1:Lib.indexByte (bl s) b=Lib.index (bl s) [b]:=by
  rcases jO (bl s) b with ⟨hn,e⟩ | ⟨hy,e⟩
  ·rw [e]
   rcases h:Lib.indexByte (bl s) b with n | n
   ·exfalso; exact hn (List.mem_of_getElem? (Lib.indexByte_some (o:=n) h).1)
   ·have:=Lib.indexByte_ge (bl s) b; rw [h] at this; omega
  ·rw [e]
   have xR:=Lib.indexByte_ge (bl s) b
   rcases Int.lt_or_le (Lib.indexByte (bl s) b) 0 with xu | Kb
   ·have:Lib.indexByte (bl s) b = -1:=oM
    have h2:=Lib.indexByte_none this
    obtain ⟨k,hk,IW⟩:=List.getElem_of_mem hy
    exact absurd (by rw [List.getElem?_eq_getElem hk,IW]) (h2 k)
   ·obtain ⟨n,hn⟩:=Int.eq_ofNat_of_zero_le Kb
    obtain ⟨h3,h4⟩:=Lib.indexByte_some hn
    rw [hn]
    have hp:=db hy
    have h5:(bl s)[(cJ b (bl s)).length]?=some b:=by
     have:(cJ b (bl s)++b :: (bl s).drop ((cJ b (bl s)).length+1))[(cJ b (bl s)).length]?=some b:=sP
     rwa [← hp] at this
    rcases Nat.lt_trichotomy n (cJ b (bl s)).length with xu | zW | AJ
    ·exfalso
     have h6:(cJ b (bl s))[n]?=some b:=by
      have:(cJ b (bl s)++b :: (bl s).drop ((cJ b (bl s)).length+1))[n]?=some b:=by rw [← hp]; exact h3
      rwa [List.getElem?_append_left xu] at this
     exact fK b (bl s) (List.mem_of_getElem? h6)
    ·rw [zW]
    ·exact absurd h5 (h4 _ AJ)
 rw [show s.data.toList=bl s from rfl,h1]
theorem gV (e:dj) (w:World) (h1:e.c.size≤1000000000) (h2:e.r.size≤1000000000) :
  Calls xi 46 #[e.val] w fun en w'=>en=.returned (.bool e.ok)∧Below w.heap.size w w':=by
 have hb0:=bZ w (.cells #[xh e.c,xh e.r] 62)
 have HO:=jZ e.ok_spec
 by_cases h0:1≤e.c.size
 ·have n1:=pC h0
  have n2:(e.c.toList.isEmpty)=false:=by simpa using n1
  have H0:Hid (decide (1≤e.c.size)=true):=jD h0
  clear h0
  go_enter Tryz.func46,Tryz.ntmps46
  go_wp2_with (first | (go_at_call 83; refine (sx _ _ _ (by assumption)).mono ?_; rintro e w' ⟨rfl,rfl⟩) | (go_at_call 84; refine (qp _ 64 _ (by assumption)).mono ?_; rintro e w' ⟨rfl,rfl⟩))
  all_goals (go_ret; exact ⟨by rw [HO.out,H0.out]; simp [*],hb0⟩)
 ·have n1:=pB h0
  have n2:(e.c.toList.isEmpty)=true:=by simp [n1]
  have H0:Hid (decide (1≤e.c.size)=false):=jE h0
  clear h0
  go_enter Tryz.func46,Tryz.ntmps46
  go_wp2
  go_ret
  exact ⟨by rw [HO.out,H0.out]; rfl,hb0⟩
theorem fy (e:dj) (w:World) (h1:e.c.size≤1000000000) (h2:e.r.size≤1000000000) :
  Calls xi 51 #[e.val] w fun en w'=>en=.returned (.bool e.ok)∧Below w.heap.size w w':=by
 have hb0:=bZ w (.cells #[xh e.c,xh e.r] 62)
 have HO:=jZ e.ok_impl
 go_enter Tryz.func51,Tryz.ntmps51
 go_wp2_with (first | (go_at_call 75; refine (aM _ _ _ _).mono ?_; rintro e w' ⟨rfl,rfl⟩) | (go_at_call 94; refine (nv _ _ (by assumption)).mono ?_; rintro e w' ⟨rfl,rfl⟩) | (go_at_call 95; refine (lf _ 64 _).mono ?_; rintro e w' ⟨rfl,rfl⟩))
 all_goals (go_ret; refine ⟨?_,hb0⟩; rw [HO.out]; simp [*] <;> omega)
theorem sB (w:World) (k:Nat) (os:Array Obj):Below w.heap.size w (Sort.grow (w.drewN k) os):=by
 have h1:Below w.heap.size w (w.drewN k):=below_drewN jB k
 refine h1.trans ⟨rfl,rfl,rfl,by simp [Sort.grow],fun i hi=>?_⟩
 have hs:(w.drewN k).heap=w.heap:=sP
 simp only [Sort.grow]
 rw [Array.getElem?_append_left (by rw [hs]; exact hi)]
abbrev jj (w : World) : Prop := Lib.TabBelow xi w.heap.size w "internal/strconv.uint64pow10" .u64 Lib.pow10Tab
theorem jj.is {w : World} (h : jj w) : Lib.TabIs xi w "internal/strconv.uint64pow10" .u64 Lib.pow10Tab := h w (Below.refl _ _)
theorem jj.then {w w' : World} (h:jj w) (hb:Below w.heap.size w w'):jj w':=fun w'' h''=>h w'' (hb.trans (h''.mono hb.size))
theorem jj.at {w:World} (h:jj w) (q:aq w.heap.size w):jj q.val:=h.then q.below
theorem dE (n:Int) (w:World) (h0 : -9223372036854775808≤n) (h1:n≤9223372036854775807) (ht:jj w) :
  Calls xi 69 #[O U n] w fun e w'=>e=.returned (xh ⟨(Lib.itoa n).toArray⟩)∧Below w.heap.size w w' :=
 (Tryz.strconv_Itoa n h0 h1 w ht.is).mono fun e w' ⟨he,k,os,hw⟩=>⟨he,by rw [hw]; exact sB w k os⟩
end Go.Proofs.YtoeoimhemojdeaaGreatDoor
