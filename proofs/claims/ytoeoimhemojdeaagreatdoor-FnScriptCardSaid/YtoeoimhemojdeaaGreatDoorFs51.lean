/- Lemmas. -/
import Derived.Test.YtoeoimhemojdeaaGreatDoorFs50

set_option linter.unusedVariables false
set_option linter.unusedSimpArgs false
set_option maxHeartbeats 8000000
open Go.Value renaming int → O, slice → F, string → wG
open Go.IntKind renaming i64 → U
open Go.Proofs.Tryz renaming prog → wH

namespace Go.Proofs.YtoeoimhemojdeaaGreatDoor
open Go.RowKit
theorem rK (A:Option Addr) (n c:Nat) (w:World):Calls wH 25 #[F A n c] w fun e w'=>e=.returned (.bool (decide (65536 < n)))∧w=w':=by
 by_cases h:65536 < n
 ·have h1:(65536:Int) < n:=oM
  rw [jD h]
  go_enter Tryz.func25,Tryz.ntmps25
  go_wp2
  go_ret
  exact ⟨by simp [h1],rfl⟩
 ·have h1 : ¬ (65536:Int) < n:=oM
  rw [jE h]
  go_enter Tryz.func25,Tryz.ntmps25
  go_wp2
  go_ret
  exact ⟨by simp [h1],rfl⟩
set_option maxRecDepth 100000 in
theorem nu (A:Option Addr) (cap:Nat) (bs:List UInt8) (w:World) (hr:gQ w w.heap.size A bs) (ht:LW w) :
  Calls wH 7 #[F A bs.length cap] w fun e w'=>e=.returned (.bool true)∧Below w.heap.size w w':=by
 by_cases AK:65536 < bs.length
 ·have hb' : decide (65536 < bs.length)=true:=jD AK
  go_enter Tryz.func7,Tryz.ntmps7
  go_wp2_with (go_at_call 25; refine (rK _ _ _ _).mono ?_; rintro e w' ⟨rfl,rfl⟩)
  go_ret
  exact ⟨rfl,Below.refl _ _⟩
 ·have hb' : decide (65536 < bs.length)=false:=jE AK
  go_enter Tryz.func7,Tryz.ntmps7
  go_wp2_with fail
  refine (rK _ _ _ _).mono ?_
  rintro e w' ⟨rfl,rfl⟩
  go_wp2_with fail
  clear hb' AK
  refine (oH A cap bs w hr).mono ?_
  rintro e w1 ⟨y,l,v,t,rfl,⟨TA,tc,OA,oc,rfl,hT,hO⟩,⟨_,⟨Jr,Js⟩,Gd,Eu,KP⟩,BT,wN⟩
  have wO:=(Below.refl w1.heap.size w1).alloc nR (.cells #[F TA y.t.length tc,F OA y.o.length oc,O U y.gt,O U y.sd,O U y.ms,wG l.D,wG l.P,O U l.n] 42)
  have K3:=ai.new w1 42 #[F TA y.t.length tc,F OA y.o.length oc,O U y.gt,O U y.sd,O U y.ms,wG l.D,wG l.P,O U l.n]
  have R3:aQ (w1.alloc (.cells #[F TA y.t.length tc,F OA y.o.length oc,O U y.gt,O U y.sd,O U y.ms,wG l.D,wG l.P,O U l.n] 42)) (w1.alloc (.cells #[F TA y.t.length tc,F OA y.o.length oc,O U y.gt,O U y.sd,O U y.ms,wG l.D,wG l.P,O U l.n] 42)).heap.size (y.at TA tc OA oc):=aQ.then ⟨aw hT,aw hO⟩ wO
  have T2:=(ht.then wN).then wO
  have B2:=av wN wO
  clear wO wN ht hr hT hO
  -- what the script gives,as values
  have FB:(y.at TA tc OA oc).t.length≤1048576:=by show y.t.length≤_; omega
  have FC:(y.at TA tc OA oc).o.length≤1048576:=by show y.o.length≤_; omega
  have Eh:Hid (∀ s:ByteArray,s.size≤1048576→∀ W,aQ W W.heap.size (y.at TA tc OA oc)→LW W→Calls wH 21 #[aJ (y.at TA tc OA oc) l,wG s] W (eQ W (dE y l s) (cl y l s))):=fun s hz W h hL=>rI (y.at TA tc OA oc) l s W h FB FC oM hz hL
  have HS:Hid (∀ W,aQ W W.heap.size (y.at TA tc OA oc)→Calls wH 20 #[aJ (y.at TA tc OA oc) l,wG t] W (eQ W (dE y l t) (cl y l t))):=fun W h=>rJ (y.at TA tc OA oc) l t W h FB FC oM oM
  have II:Hid (∀ W,aQ W W.heap.size (y.at TA tc OA oc)→LW W→Calls wH 33 #[aJ (y.at TA tc OA oc) l] W fun e w'=>e=.returned (.tuple #[wG (li (y.at TA tc OA oc) l),.bool (dx (y.at TA tc OA oc) l)])∧Below W.heap.size W w'):=fun W h hL=>oL (y.at TA tc OA oc) l W h oM hL.tab
  have IJ:Hid (∀ W,aQ W W.heap.size (y.at TA tc OA oc)→Calls wH 34 #[aJ (y.at TA tc OA oc) l] W fun e w'=>e=.returned (.tuple #[wG (li (y.at TA tc OA oc) l),.bool (dx (y.at TA tc OA oc) l)])∧Below W.heap.size W w'):=fun W h=>oN (y.at TA tc OA oc) l W h oM
  clear FB FC
  generalize li (y.at TA tc OA oc) l=ct at II IJ
  generalize dx (y.at TA tc OA oc) l=co at II IJ
  have hI:=Eh.out t oM
  have Io:=rF y l t
  have BP:Hid (cl y l t=false→dE y l t = []):=fun h=>by unfold dE; rw [if_neg (by rw [h]; decide)]
  have DN:Hid (cl y l t=true→∃ (u:ByteArray) (r:List (List UInt8)),aI 10 (bl t)=bl u :: r∧u.size≤4000∧cl y l u=true∧dE y l u = [lp y l u]∧∃ r',dE y l t=lp y l u :: r'):=fun h=>qq h
  obtain ⟨m,CA⟩ : ∃ m,dE y l t=m:=⟨_,rfl⟩
  obtain ⟨ok,wP⟩ : ∃ ok,cl y l t=ok:=⟨_,rfl⟩
  simp only [CA,wP] at hI HS BP DN Io
  clear CA wP
  have HI:=jZ hI
  have Nz:=jZ BT
  clear hI BT
  go_upto_region 4 with fail
  generalize w1.alloc (.cells #[F TA y.t.length tc,F OA y.o.length oc,O U y.gt,O U y.sd,O U y.ms,wG l.D,wG l.P,O U l.n] 42)=w2 at K3 R3 T2 B2 ⊢
  generalize w1.heap.size=g3 at K3 ⊢
  obtain ⟨c0,c1,c2,c3,c4,c5,c6,c7⟩:=cells8 K3
  go_wp2_with fail
  refine (HI.out w2 R3 T2).mono ?_
  rintro e w3 ⟨A5,p5,rfl,x9,wZ⟩
  replace B2:=av B2 wZ
  replace K3:=K3.below wZ K3.lt
  replace R3:=R3.then wZ
  have T3:=T2.then wZ
  have R5:=x9.reads
  clear wZ x9 T2 HI c0 c1 c2 c3 c4 c5 c6 c7
  obtain ⟨c0,c1,c2,c3,c4,c5,c6,c7⟩:=cells8 K3
  go_wp2_with fail
  refine (HS.out w3 R3).mono ?_
  rintro e w4 ⟨A7,p7,rfl,Cy,wV⟩
  replace B2:=av B2 wV
  replace K3:=K3.below wV K3.lt
  replace R3:=R3.then wV
  have T4:=T3.then wV
  replace R5:=R5.then wV
  have R7:=Cy.reads
  clear wV Cy T3 HS c0 c1 c2 c3 c4 c5 c6 c7
  have x1:(ok != ok)=false:=by cases ok <;> rfl
  have x2:((m.length:Int) != (m.length:Int))=false:=sP
  go_wp2_with fail
  go_loopw [9] (fun i wr=>∃ k:Nat,k≤m.length∧i=O U k∧(∃ q:ap w4.heap.size w4,wr=q.val)) (fun i _=>m.length - (intOf i).toNat)
  case atStart=>exact ⟨0,Nat.zero_le _,rfl,⟨ap.start _ _,rfl⟩⟩
  case round =>
   obtain ⟨k,hk,rfl,⟨q,rfl⟩⟩:=hrel
   by_cases wQ:k < m.length
   ·obtain ⟨b5,o5,rfl,hb5,hc5⟩:=R5.cells oM
    obtain ⟨b7,o7,rfl,yJ,LM⟩:=R7.cells oM
    have e5:=hc5 k wQ
    have e7:=LM k wQ
    obtain ⟨u,hu⟩ : ∃ u,m[k]=u:=⟨_,rfl⟩
    rw [hu] at e5 e7
    have x3:(u.toList != u.toList)=false:=sP
    clear hu hc5 LM BP DN R5 R7
    go_wp2
    refine aX _ kZ kZ ?_
    repeat (any_goals (first | go_big_quiet_step ((fail)) | (refine wpQuiet_step (fun K hK=>?_); go_simp; split <;> (refine hK _ ?_; clear hK K))))
    all_goals (refine wpQuiet_nil ?_; rintro _ ⟨q1,rfl⟩)
    go_wp2
    go_roundw
    case rel=>exact ⟨k+1,oM,by go_num,⟨q1,rfl⟩⟩
    case measure=>simp [intOf]; omega
   ·have NA:k=m.length:=oM
    subst NA
    clear wQ
    obtain ⟨w5,Al⟩ : ∃ w5,q.val=w5:=⟨_,rfl⟩
    have hb5:Below w4.heap.size w4 w5:=by rw [← Al]; exact q.below
    rw [Al]
    clear Al
    replace B2:=av B2 hb5
    replace K3:=K3.below hb5 K3.lt
    replace R3:=R3.then hb5
    have T5:=T4.then hb5
    replace R5:=R5.then hb5
    clear hb5 T4 R7
    have hlt' : ¬ (m.length:Int) < (m.length:Int):=oM
    go_wp2_with fail
    refine (nr t w5 Nz.out).mono ?_
    rintro e w6 ⟨g10,c10,rest,rfl,K10,hg10,xn⟩
    replace B2:=av B2 xn
    replace K3:=K3.below xn K3.lt
    replace R3:=R3.then xn
    have T6:=T5.then xn
    replace R5:=R5.then xn
    clear xn T5 hg10
    obtain ⟨ps,zL⟩ : ∃ ps,aI 10 (bl t)=ps:=⟨_,rfl⟩
    rw [zL] at K10 ⊢
    rw [zL] at DN
    clear zL
    cases ok
    ·have Ff:=BP.out rfl
     clear BP DN
     subst Ff
     clear R5
     go_wp2
     go_ret
     exact ⟨rfl,B2⟩
    ·by_cases h2:(ps.length:Int) < 2
     ·clear BP DN
      go_wp2
      go_ret
      exact ⟨rfl,B2⟩
     ·obtain ⟨u,r,KD,Lf,Hq,Kd,r',CA⟩:=DN.out rfl
      have KE:Hid (∀ W,aQ W W.heap.size (y.at TA tc OA oc)→LW W→Calls wH 21 #[aJ (y.at TA tc OA oc) l,wG u] W (eQ W [lp y l u] true)):=by
       have:=Eh.out u oM
       rw [Kd,Hq] at this
       exact this
      have HK:Hid (∀ w9,Below w6.heap.size w6 w9→w9.cell? ⟨g10,0,none⟩=some (wG u)):=fun w9 hb=>by
       have h1:=(K10.below hb K10.lt).cell 0
       rw [KD] at h1
       have e:(⟨(bl u).toArray⟩ : ByteArray)=u:=nY (bo (bl u))
       have h2:(dP (bl u :: r)++rest)[0]?=some (wG ⟨(bl u).toArray⟩):=rfl
       rw [h2,e] at h1
       exact h1
      have Ln:0 < ps.length:=by rw [KD]; exact Nat.succ_pos _
      have GV:0 < m.length:=by rw [CA]; exact Nat.succ_pos _
      have IA:m[0]=lp y l u:=by subst CA; rfl
      obtain ⟨T0,zd⟩ : ∃ T0,lp y l u=T0:=⟨_,rfl⟩
      rw [zd] at KE IA
      obtain ⟨b5,o5,rfl,hb5,hc5⟩:=R5.cells GV
      have ID:Hid (∀ w9,Below w6.heap.size w6 w9→w9.cell? ⟨b5,o5,none⟩=some (wG T0)):=fun w9 hb=>by
       have:=hc5 0 GV ⟨w9,hb⟩
       rw [IA] at this; exact this
      have On:=jZ GV
      have Oo:(0:Int) < (ps.length:Int):=oM
      have Oq:(0:Int) < (m.length:Int):=oM
      clear IA zd CA Kd Hq KD Lf K10 hc5 hb5 BP DN Eh R5
      clear r r'
      go_upto_region 16 with fail
      refine al (fun _=>(fun W9=>Below w6.heap.size w6 W9)) (fun _ w1 w2=>Below w1.heap.size w1 w2) kZ kZ kZ jB.drew ?_
      simp only [ax,Act.put,sA,gs0,gs1,Nat.zero_add,Nat.reduceAdd]
      refine aa _ (vp0C8 K3) ?_
      refine aa _ vp0 ?_
      refine aa _ (vp1 1) ?_
      refine aa _ (vp1w 2 HK) ?_
      refine sm [] (fun v w9=>∃ A c,v=.tuple #[F A 1 c,.bool true]∧ku w9 w6.heap.size A c [T0]) (fun vs L9 w9 wK wI hB K9 wJ=>?_) ?_
      next =>
       have d0:=fe hB 0
       have d3:=fe hB 3
       simp only [d0,d3] at wJ ⊢
       simp only [Act.put,sA,gs0,gs1] at wJ
       go_simp
       refine (KE.out w9 (R3.then wI) (T6.then wI)).mono ?_
       rintro en w8 ⟨A8,c8,rfl,Cb,wL⟩
       exact wJ _ _ _ rfl ⟨A8,c8,rfl,ah Cb wI.size⟩ (wI.trans (wL.mono wI.size)) (wL)
      refine pm0 [] 4 (fun u v _=>v=u∧∃ A c,u=.tuple #[F A 1 c,.bool true]) (fun vs L9 w9 wK wI hB K9 wJ=>?_) ?_
      next =>
       obtain ⟨A5,c5,e5,_⟩:=fs hB 4
       simp only [e5] at wJ ⊢
       go_simp
       exact wJ _ _ _ rfl ⟨rfl,A5,c5,rfl⟩ wI jB
      refine sm [] (fun v w9=>∃ A c,v=F A 1 c∧ku w9 w6.heap.size A c [T0]) (fun vs L9 w9 wK wI hB K9 wJ=>?_) ?_
      next =>
       simp only [Act.put,sA,gs0,gs1] at wJ
       obtain ⟨q5,_⟩:=fs hB 5
       obtain ⟨A4,c4,e4,h4⟩:=fs hB 4
       simp only [q5,e4] at wJ ⊢
       go_simp
       exact wJ _ _ _ rfl ⟨A4,c4,rfl,h4⟩ wI jB
      refine aa (.bool true) (fun vs L9 w9 wK wI hB K9 wJ=>?_) ?_
      next =>
       obtain ⟨q5,A4,c4,e4⟩:=fs hB 5
       simp only [q5,e4] at wJ ⊢
       go_simp
       exact wJ _ _ rfl wI jB
      refine sm [] (fun v w9=>∃ A c,v=F A 1 c∧ku w9 w6.heap.size A c [T0]) (fun vs L9 w9 wK wI hB K9 wJ=>?_) ?_
      next =>
       simp only [Act.put,sA,gs0,gs1] at wJ
       obtain ⟨A6,c6,e6,h6⟩:=fs hB 6
       simp only [e6] at wJ ⊢
       go_simp
       exact wJ _ _ _ rfl ⟨A6,c6,rfl,h6⟩ wI jB
      refine aa _ (vp1 7) ?_
      refine ar fun vs Lq w8 wS wL hB=>?_
      obtain ⟨A12,c12,e12,h12⟩:=hB 8 _ rfl rfl dD
      have d9:=ag.eq (hB 9 _ rfl rfl dD)
      simp only [e12,d9]
      clear hB wS e12 d9
      replace B2:=av B2 wL
      replace K3:=K3.below wL K3.lt
      replace R3:=R3.then wL
      have T8:=T6.then wL
      have R12:=h12.reads
      clear h12 KE HK T6
      obtain ⟨c0,c1,c2,c3,c4,c5,c6,c7⟩:=cells8 K3
      go_wp2_with fail
      refine (II.out w8 R3 T8).mono ?_
      rintro e w9 ⟨rfl,hb9⟩
      have hb10:=av wL hb9
      replace B2:=av B2 hb9
      replace K3:=K3.below hb9 K3.lt
      replace R3:=R3.then hb9
      replace R12:=R12.then hb9
      clear hb9 wL T8 c0 c1 c2 c3 c4 c5 c6 c7 II
      obtain ⟨c0,c1,c2,c3,c4,c5,c6,c7⟩:=cells8 K3
      go_wp2_with fail
      refine (IJ.out w9 R3).mono ?_
      rintro e w10 ⟨rfl,hb9⟩
      replace hb10:=av hb10 hb9
      replace B2:=av B2 hb9
      replace R12:=R12.then hb9
      clear hb9 K3 R3 c0 c1 c2 c3 c4 c5 c6 c7 IJ
      obtain ⟨b12,o12,rfl,Di,hc12⟩:=R12.cells (show 0 < [T0].length from Nat.succ_pos 0)
      have HA:Hid (∀ w9,Below w10.heap.size w10 w9→w9.cell? ⟨b12,o12,none⟩=some (wG T0)):=fun w9 hb=>hc12 0 (Nat.succ_pos 0) ⟨w9,hb⟩
      have Kx:Hid (∀ w9,Below w10.heap.size w10 w9→w9.cell? ⟨b5,o5,none⟩=some (wG T0)):=fun w9 hb=>ID.out w9 (av hb10 hb)
      have x5:(T0.toList == T0.toList)=true:=sP
      have x6:(ct.toList == ct.toList)=true:=sP
      have x7:(co == co)=true:=sP
      clear R12 hc12 Di ID hb10
      go_upto_region 19 with fail
      refine al (fun _=>(fun W9=>Below w10.heap.size w10 W9)) (fun _ w1 w2=>Below w1.heap.size w1 w2) kZ kZ kZ jB.drew ?_
      simp only [ax,Act.put,sA,gs0,gs1,Nat.zero_add,Nat.reduceAdd]
      refine aa _ vp0 ?_
      refine aa _ (vp1 0) ?_
      refine aa _ (vp1 1) ?_
      refine aa _ (vp2 2 1) ?_
      refine aa _ (vp2 3 1) ?_
      refine aa _ (vp2 1 4) ?_
      refine aa _ (vp1 5) ?_
      refine aa _ (vp1 6) ?_
      refine aa _ (vp2 7 6) ?_
      refine aa _ (vp2w 8 6 HA) ?_
      refine aa _ (vp1 6) ?_
      refine aa _ (vp2 10 6) ?_
      refine aa _ (vp2w 11 6 Kx) ?_
      refine aa _ (vp3 9 12 6) ?_
      refine aa _ (vp2 6 13) ?_
      refine aa _ (vp1 14) ?_
      refine aa _ (vp1 15) ?_
      refine aa _ (vp1 15) ?_
      refine aa _ (vp3 16 17 15) ?_
      refine aa _ (vp2 15 18) ?_
      refine aa _ (vp1 19) ?_
      refine aa _ (vp1 20) ?_
      refine aa _ (vp1 20) ?_
      refine aa _ (vp3 21 22 20) ?_
      refine aa _ (vp2 20 23) ?_
      refine aa _ (vp1 24) ?_
      refine ar fun vs Lq w11 wS Hr hB=>?_
      have d25:=ag.eq (hB 25 _ rfl rfl dD)
      simp only [d25]
      clear hB wS d25
      replace B2:=av B2 Hr
      clear Hr
      go_wp2
      go_ret
      exact ⟨rfl,B2⟩
end Go.Proofs.YtoeoimhemojdeaaGreatDoor
