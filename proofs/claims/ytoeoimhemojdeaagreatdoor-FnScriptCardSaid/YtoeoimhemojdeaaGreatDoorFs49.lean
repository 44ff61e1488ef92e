/- Lemmas. -/
import Derived.Deep.CutBlock
import Derived.Deep.RegionLawGrows
import Derived.Test.YtoeoimhemojdeaaGreatDoorFs27
import Derived.Test.YtoeoimhemojdeaaGreatDoorFs48

set_option linter.unusedVariables false
set_option linter.unusedSimpArgs false
set_option maxHeartbeats 8000000
open Go.Value renaming int → O, slice → F, string → wG
open Go.IntKind renaming i64 → U
open Go.Proofs.Tryz renaming prog → wH

namespace Go.Proofs.YtoeoimhemojdeaaGreatDoor
open Go.RowKit
def CS (y:Oc) (l:Lg):Prop:=vJ y∧(y.t.length≤20∧y.o.length≤20)∧wk l
theorem wh {y:Oc} {l:Lg} (h:oO y l=true):CS y l:=by
 obtain ⟨h1,h2⟩:=ia.1 h
 have G:=br.1 (show ao (y.at none 0 none 0)=true from h1)
 have g1:y.t.length≤8:=G.tl
 have g2:y.o.length≤8:=G.ol
 obtain ⟨q1,_,q3⟩:=ce.1 h2
 have hs:=fi q1
 have hl:=cW 60 0 (bl l.D++bl l.P)
 rw [an,an] at hs
 exact ⟨nQ h1,⟨oM,oM⟩,oM,oM,oM⟩
theorem i8.grown {W W' : World} {B g:Nat} {y:Oc} {l:Lg} {v:Value} (h:i8 W B y l v) (hg:W.grownBy W' (some g)) (hB:g < B):i8 W' B y l v:=by
 obtain ⟨TA,tc,OA,oc,e,h1,h2⟩:=h
 exact ⟨TA,tc,OA,oc,e,cm h1 hg hB,cm h2 hg hB⟩
theorem dr.grown {W W' : World} {B g h:Nat} {y:Oc} {l:Lg} (hI:dr W B h y l) (hg:W.grownBy W' (some g)) (hB:g < B) (wT:g ≠ h):dr W' B h y l:=by
 obtain ⟨TA,tc,OA,oc,hL,h1,h2⟩:=hI
 exact ⟨TA,tc,OA,oc,hL.kept hg (by intro e; injection e with e; exact wT e.symm),cm h1 hg hB,cm h2 hg hB⟩
structure CQ (w W wx:World) (g:Nat) (A:Option Addr) (bs:List UInt8) (cap m gc:Nat) (y:Oc) (l:Lg):Prop where
 env:eZ w wx g A bs cap m
 out:ai wx W.heap.size 42 [F none 0 0,F none 0 0,O U 0,O U 0,O U 0,wG ⟨#[]⟩,wG ⟨#[]⟩,O U 0]
 con:dr wx W.heap.size gc y l
 gr:W.grownBy wx (some g)
 l1:W.heap.size < gc
 lt:g < W.heap.size
 ww:w.heap.size≤W.heap.size
section
variable {w W wx wy:World} {g:Nat} {A:Option Addr} {bs:List UInt8} {cap m m' gc:Nat} {y:Oc} {l:Lg}
theorem CQ.mono (h:CQ w W wx g A bs cap m gc y l) (hm:m≤m'):CQ w W wx g A bs cap m' gc y l:={ h with env:=h.env.mono hm }
theorem CQ.next (h:CQ w W wx g A bs cap m gc y l) (E:eZ w wy g A bs cap m') (hg:wx.grownBy wy (some g)):CQ w W wy g A bs cap m' gc y l :=
 ⟨E,h.out.kept hg (by intro e; injection e; have:=h.lt; omega),h.con.grown hg h.lt (by have:=h.lt; have:=h.l1; omega),aA h.gr hg,h.l1,h.lt,h.ww⟩
theorem CQ.setLog (h:CQ w W wx g A bs cap m gc y l) (l2:Lg):CQ w W (((wx.setCell ⟨gc,5,none⟩ (wG l2.D)).setCell ⟨gc,6,none⟩ (wG l2.P)).setCell ⟨gc,7,none⟩ (O U l2.n)) g A bs cap m gc y l2:=by
 obtain ⟨TA,tc,OA,oc,K,hT,hO⟩:=h.con
 have hg:=(ab (g:=gc) (i:=7) (u:=O U l2.n) (ab (g:=gc) (i:=6) (u:=wG l2.P) (ab (g:=gc) (i:=5) (u:=wG l2.D) (World.grownBy.refl wx (some gc)))))
 have l1:=h.l1
 have lt:=h.lt
 have ww:=h.ww
 exact ⟨h.env.wrote hg oM oM,h.out.kept hg iE,⟨TA,tc,OA,oc,((K.set 5 _).set 6 _).set 7 _,ak hT K fj hg,ak hO K fk hg⟩,bn h.gr hg oM,l1,lt,ww⟩
theorem CQ.below (h:CQ w W wx g A bs cap m gc y l) (hb:Below wx.heap.size wx wy):CQ w W wy g A bs cap m gc y l:=h.next (h.env.below hb) (cn hb _)
end
set_option maxRecDepth 100000 in
theorem nf (g:Nat) (A:Option Addr) (bs:List UInt8) (cap m:Nat) (w W:World) (hm:m≤500000000) (E0:eZ w W g A bs cap m) :
  Calls wH 61 #[.pointer (some ⟨g,0,none⟩)] W fun e w'=>∃ (y:Oc) (l:Lg) (v:Value),e=.returned v∧i8 w' W.heap.size y l v∧CS y l∧eZ w w' g A bs cap (m+130000)∧W.grownBy w' (some g):=by
 have hgB:=E0.lt
 have hwW:=E0.gr.size
 have L2:=ai.new W 42 #[F none 0 0,F none 0 0,O U 0,O U 0,O U 0,wG ⟨#[]⟩,wG ⟨#[]⟩,O U 0]
 have E2:=E0.alloc (.cells #[F none 0 0,F none 0 0,O U 0,O U 0,O U 0,wG ⟨#[]⟩,wG ⟨#[]⟩,O U 0] 42)
 have G2:W.grownBy (W.alloc (.cells #[F none 0 0,F none 0 0,O U 0,O U 0,O U 0,wG ⟨#[]⟩,wG ⟨#[]⟩,O U 0] 42)) (some g):=World.grownBy_alloc _ _ _
 have xQ:W.heap.size < (W.alloc (.cells #[F none 0 0,F none 0 0,O U 0,O U 0,O U 0,wG ⟨#[]⟩,wG ⟨#[]⟩,O U 0] 42)).heap.size:=sP
 clear E0
 go_enter Tryz.func61,Tryz.ntmps61
 go_wp2_with fail
 generalize (W.alloc (.cells #[F none 0 0,F none 0 0,O U 0,O U 0,O U 0,wG ⟨#[]⟩,wG ⟨#[]⟩,O U 0] 42))=W1 at L2 E2 G2 xQ ⊢
 refine (qU g A bs cap m w W1 oM E2).mono ?_
 rintro e W2 ⟨y,v,rfl,⟨TA,tc,OA,oc,rfl,hT,hO⟩,LH,Bg,E3,gr3⟩
 have L3:=L2.kept gr3 iE
 have G3:=aA G2 gr3
 have Cc:=gr3.size
 have hT:=ah hT (Nat.le_of_lt xQ)
 have hO:=ah hO (Nat.le_of_lt xQ)
 clear gr3 E2 L2 G2
 have Q:CQ w W (W2.alloc (.cells #[F TA y.t.length tc,F OA y.o.length oc,O U y.gt,O U y.sd,O U y.ms,wG ⟨#[]⟩,wG ⟨#[]⟩,O U 0] 42)) g A bs cap (m+100000) W2.heap.size y ⟨⟨#[]⟩,⟨#[]⟩,0⟩:=⟨E3.alloc _,L3.alloc _,⟨TA,tc,OA,oc,ai.new W2 _ _,hT.alloc _,hO.alloc _⟩,di G3 _,oM,hgB,hwW⟩
 have Bf:Hid (CS y ⟨⟨#[]⟩,⟨#[]⟩,0⟩):=⟨Bg,LH,dD,dD,dD⟩
 clear hT hO Bg LH E3 L3 G3
 go_wp2_with fail
 generalize (W2.alloc (.cells #[F TA y.t.length tc,F OA y.o.length oc,O U y.gt,O U y.sd,O U y.ms,wG ⟨#[]⟩,wG ⟨#[]⟩,O U 0] 42))=W3 at Q ⊢
 generalize W2.heap.size=gc at Q ⊢
 have l1:=Q.l1
 refine (dF Q.env 7 oM oM).mono ?_
 rintro e W4 ⟨n,rfl,hn,E4,gr4⟩
 have HQ:=jZ (Q.next E4 gr4)
 clear Q E4 gr4 Cc xQ
 go_upto_block 0 with fail
 go_cut [] (fun wx=>∃ (y:Oc) (l:Lg),CS y l∧CQ w W wx g A bs cap (m+120000) gc y l)
 case first =>
  go_wp2_with fail
  go_loopw [4] (fun i wr=>∃ (k:Nat) (y:Oc) (l:Lg),k≤6∧i=O U k∧Hid (CS y l)∧Hid (CQ w W wr g A bs cap (m+100100+2100 * (7 - k)) gc y l)) (fun i _=>(intOf i).toNat)
  case atStart=>exact ⟨n,y,⟨⟨#[]⟩,⟨#[]⟩,0⟩,oM,rfl,Bf,HQ.out.mono oM⟩
  case round =>
   clear HQ Bf hn
   obtain ⟨k,y,l,hk,rfl,Bf,HQ⟩:=hrel
   by_cases wQ:0 < k
   ·have hlt' : (0:Int) < k:=oM
    have St:=HQ.out
    obtain ⟨TA,tc,OA,oc,K3,hT,hO⟩:=St.con
    obtain ⟨Bt,⟨Jr,Js⟩,CP,_,_⟩:=Bf.out
    have Bb:=jZ Bt
    clear Bt
    obtain ⟨c0,c1,c2,c3,c4,c5,c6,c7⟩:=cells8 K3
    go_wp2_with fail
    refine (eH (y.at TA tc OA oc) l wr ⟨aw hT,aw hO⟩ oM).mono ?_
    rintro e w1 ⟨rfl,hb⟩
    have Fv:Hid (oO y l=dx (y.at TA tc OA oc) l):=(qp (y.at TA tc OA oc) l).symm
    obtain ⟨bb,ze⟩ : ∃ bb,dx (y.at TA tc OA oc) l=bb:=⟨_,rfl⟩
    rw [ze] at Fv ⊢
    clear ze
    replace St:=St.below hb
    replace hT:=ac hT hb
    replace hO:=ac hO hb
    replace K3:=K3.below hb K3.lt
    clear hb HQ c0 c1 c2 c3 c4 c5 c6 c7
    cases bb
    ·go_wp2_with fail
     go_meet
     case rel=>exact ⟨y,l,Bf.out,St.mono oM⟩
    have xf:=Fv
    clear Fv
    have Gx:(y.at TA tc OA oc).t.length≤100000:=by show y.t.length≤_; omega
    have No:(y.at TA tc OA oc).o.length≤100000:=by show y.o.length≤_; omega
    have Az:Hid (∀ b,Value.ownBlock (F TA y.t.length tc)=some b→b ∉ [g,gc]):=by
     intro b hb hm; simp only [mC,mN,oF] at hm
     have:=(hT.lt b hb).1
     rcases hm with rfl | rfl; omega; exact bB hT K3 fj hb.symm
    have EJ:Hid (∀ b,Value.ownBlock (F OA y.o.length oc)=some b→b ∉ [g,gc]):=by
     intro b hb hm; simp only [mC,mN,oF] at hm
     have:=(hO.lt b hb).1
     rcases hm with rfl | rfl; omega; exact bB hO K3 fk hb.symm
    have CY:Hid (∀ p ∈ [bX.lies 8 gc 42 [F TA y.t.length tc,F OA y.o.length oc,O U y.gt,O U y.sd,O U y.ms,wG l.D,wG l.P,O U l.n]],p.blk ≠ some g∧p.P w1):=by
     intro p hp; simp only [List.mem_singleton] at hp; subst hp; exact ⟨by intro e; injection e; omega,K3⟩
    have Ia:=St.gr.size
    have wY:=K3.lt
    go_wp2_with fail
    refine al (Dr w w1 g A bs cap (m+100100+2100 * (7 - k)) 210 9 [g,gc] [bX.lies 8 gc 42 [F TA y.t.length tc,F OA y.o.length oc,O U y.gt,O U y.sd,O U y.ms,wG l.D,wG l.P,O U l.n]]) (fun i w1 w2=>i ∉ [8]→w1.grownBy w2 (some g)) kZ kZ kZ (Dr.start St.env CY.out) ?_
    simp only [ax,Act.put,sA,gs0,gs1,Nat.zero_add,Nat.reduceAdd]
    apply aa
    case h1 =>
     intro vs L9 w9 wK wI hB K9 wJ
     have q0:w9.cell? ⟨gc,0,none⟩=some (F TA y.t.length tc):=((wI.room (bX.lies 8 gc 42 [F TA y.t.length tc,F OA y.o.length oc,O U y.gt,O U y.sd,O U y.ms,wG l.D,wG l.P,O U l.n]) sP).2 (wK.open_ 8 kZ)).cell 0
     have q1:w9.cell? ⟨gc,1,none⟩=some (F OA y.o.length oc):=((wI.room (bX.lies 8 gc 42 [F TA y.t.length tc,F OA y.o.length oc,O U y.gt,O U y.sd,O U y.ms,wG l.D,wG l.P,O U l.n]) sP).2 (wK.open_ 8 kZ)).cell 1
     have q2:w9.cell? ⟨gc,2,none⟩=some (O U y.gt):=((wI.room (bX.lies 8 gc 42 [F TA y.t.length tc,F OA y.o.length oc,O U y.gt,O U y.sd,O U y.ms,wG l.D,wG l.P,O U l.n]) sP).2 (wK.open_ 8 kZ)).cell 2
     have q3:w9.cell? ⟨gc,3,none⟩=some (O U y.sd):=((wI.room (bX.lies 8 gc 42 [F TA y.t.length tc,F OA y.o.length oc,O U y.gt,O U y.sd,O U y.ms,wG l.D,wG l.P,O U l.n]) sP).2 (wK.open_ 8 kZ)).cell 3
     have q4:w9.cell? ⟨gc,4,none⟩=some (O U y.ms):=((wI.room (bX.lies 8 gc 42 [F TA y.t.length tc,F OA y.o.length oc,O U y.gt,O U y.sd,O U y.ms,wG l.D,wG l.P,O U l.n]) sP).2 (wK.open_ 8 kZ)).cell 4
     have q5:w9.cell? ⟨gc,5,none⟩=some (wG l.D):=((wI.room (bX.lies 8 gc 42 [F TA y.t.length tc,F OA y.o.length oc,O U y.gt,O U y.sd,O U y.ms,wG l.D,wG l.P,O U l.n]) sP).2 (wK.open_ 8 kZ)).cell 5
     have q6:w9.cell? ⟨gc,6,none⟩=some (wG l.P):=((wI.room (bX.lies 8 gc 42 [F TA y.t.length tc,F OA y.o.length oc,O U y.gt,O U y.sd,O U y.ms,wG l.D,wG l.P,O U l.n]) sP).2 (wK.open_ 8 kZ)).cell 6
     have q7:w9.cell? ⟨gc,7,none⟩=some (O U l.n):=((wI.room (bX.lies 8 gc 42 [F TA y.t.length tc,F OA y.o.length oc,O U y.gt,O U y.sd,O U y.ms,wG l.D,wG l.P,O U l.n]) sP).2 (wK.open_ 8 kZ)).cell 7
     simp only [Act.put,sA,gs0,gs1] at wJ
     go_simp
     exact wJ _ _ rfl (dS wK wI) gR
    refine aa _ vd0 ?_
    apply aa
    case h1 =>
     intro vs L9 w9 wK wI hB K9 wJ
     have q0:w9.cell? ⟨gc,0,none⟩=some (F TA y.t.length tc):=((wI.room (bX.lies 8 gc 42 [F TA y.t.length tc,F OA y.o.length oc,O U y.gt,O U y.sd,O U y.ms,wG l.D,wG l.P,O U l.n]) sP).2 (wK.open_ 8 kZ)).cell 0
     have q1:w9.cell? ⟨gc,1,none⟩=some (F OA y.o.length oc):=((wI.room (bX.lies 8 gc 42 [F TA y.t.length tc,F OA y.o.length oc,O U y.gt,O U y.sd,O U y.ms,wG l.D,wG l.P,O U l.n]) sP).2 (wK.open_ 8 kZ)).cell 1
     have q2:w9.cell? ⟨gc,2,none⟩=some (O U y.gt):=((wI.room (bX.lies 8 gc 42 [F TA y.t.length tc,F OA y.o.length oc,O U y.gt,O U y.sd,O U y.ms,wG l.D,wG l.P,O U l.n]) sP).2 (wK.open_ 8 kZ)).cell 2
     have q3:w9.cell? ⟨gc,3,none⟩=some (O U y.sd):=((wI.room (bX.lies 8 gc 42 [F TA y.t.length tc,F OA y.o.length oc,O U y.gt,O U y.sd,O U y.ms,wG l.D,wG l.P,O U l.n]) sP).2 (wK.open_ 8 kZ)).cell 3
     have q4:w9.cell? ⟨gc,4,none⟩=some (O U y.ms):=((wI.room (bX.lies 8 gc 42 [F TA y.t.length tc,F OA y.o.length oc,O U y.gt,O U y.sd,O U y.ms,wG l.D,wG l.P,O U l.n]) sP).2 (wK.open_ 8 kZ)).cell 4
     have q5:w9.cell? ⟨gc,5,none⟩=some (wG l.D):=((wI.room (bX.lies 8 gc 42 [F TA y.t.length tc,F OA y.o.length oc,O U y.gt,O U y.sd,O U y.ms,wG l.D,wG l.P,O U l.n]) sP).2 (wK.open_ 8 kZ)).cell 5
     have q6:w9.cell? ⟨gc,6,none⟩=some (wG l.P):=((wI.room (bX.lies 8 gc 42 [F TA y.t.length tc,F OA y.o.length oc,O U y.gt,O U y.sd,O U y.ms,wG l.D,wG l.P,O U l.n]) sP).2 (wK.open_ 8 kZ)).cell 6
     have q7:w9.cell? ⟨gc,7,none⟩=some (O U l.n):=((wI.room (bX.lies 8 gc 42 [F TA y.t.length tc,F OA y.o.length oc,O U y.gt,O U y.sd,O U y.ms,wG l.D,wG l.P,O U l.n]) sP).2 (wK.open_ 8 kZ)).cell 7
     simp only [Act.put,sA,gs0,gs1] at wJ
     go_simp
     exact wJ _ _ rfl (dS wK wI) gR
    refine sm0 [] (fun v _=>∃ t:ByteArray,v=wG t∧t.size≤500) (fun vs L9 w9 wK wI hB K9 wJ=>?_) ?_
    next =>
     have d1:=fe hB 1
     have d2:=fe hB 2
     simp only [d1,d2] at wJ ⊢
     simp only [Act.put,sA,gs0,gs1] at wJ
     go_simp
     refine (iP (y.at TA tc OA oc) l Bb.out g A bs cap _ w w9 (by have:=wI.cnt; omega) Gx No wI.env ⟨aw (wI.owns hT Az.out),aw (wI.owns hO EJ.out)⟩ (fun b e=>by have:=iX hT b e; omega) (fun b e=>by have:=iX hO b e; omega)).mono ?_
     rintro en w8 ⟨t8,rfl,Ck,yz,xu⟩
     exact wJ _ _ _ rfl ⟨t8,rfl,Ck⟩ (wI.call wK.self dD yz oM xu sP) (fun _=>xu)
    refine sm [8] (fun v w9=>∃ (u:Value) (z:Oc) (q:Lg) (T:ByteArray),v=.tuple #[u,wG T]∧i8 w9 W.heap.size z q u∧oO z q=true) (fun vs L9 w9 wK wI hB K9 wJ=>?_) ?_
    next =>
     have d0:=fe hB 0
     simp only [d0] at wJ ⊢
     simp only [Act.put,sA,gs0,gs1] at wJ
     obtain ⟨t3,e3,ez3⟩:=fs hB 3
     simp only [e3] at wJ ⊢
     go_simp
     have hwS:W.heap.size≤w9.heap.size:=jT Ia wI.size
     have Kh:oO (fD (y.at TA tc OA oc) l t3) (fS (y.at TA tc OA oc) l t3)=true:=by rw [qn,qo]; exact nz t3 xf.out
     refine (oz (y.at TA tc OA oc) l t3 w9 ⟨aw (wI.owns hT Az.out),aw (wI.owns hO EJ.out)⟩ (by show y.t.length≤_; omega) (by show y.o.length≤_; omega) oM oM).mono ?_
     rintro en w8 ⟨v8,rfl,Ch,wL⟩
     exact wJ _ _ _ rfl ⟨v8,_,_,_,rfl,Ch.lower hwS,Kh⟩ (wI.below wK.self dD wL) (fun _=>cn wL _)
    refine pm0 [] 4 (fun u v _=>v=u∧∃ q T,u=.tuple #[q,wG T]) (fun vs L9 w9 wK wI hB K9 wJ=>?_) ?_
    next =>
     obtain ⟨u5,_,_,T5,e5,_⟩:=fs hB 4
     simp only [e5] at wJ ⊢
     go_simp
     exact wJ _ _ _ rfl ⟨rfl,u5,T5,rfl⟩ (dS wK wI) gR
    refine sm [8] (fun v w9=>∃ (z:Oc) (q:Lg),i8 w9 W.heap.size z q v∧oO z q=true) (fun vs L9 w9 wK wI hB K9 wJ=>?_) ?_
    next =>
     simp only [Act.put,sA,gs0,gs1] at wJ
     obtain ⟨q5,_⟩:=fs hB 5
     obtain ⟨u4,z4,l4,T4,e4,h4,h4g⟩:=fs hB 4
     simp only [q5,e4] at wJ ⊢
     go_simp
     exact wJ _ _ _ rfl ⟨z4,l4,h4,h4g⟩ (dS wK wI) gR
    refine sm0 [] (fun v _=>∃ T:ByteArray,v=wG T) (fun vs L9 w9 wK wI hB K9 wJ=>?_) ?_
    next =>
     simp only [Act.put,sA,gs0,gs1] at wJ
     obtain ⟨q5,u4,T4,e4⟩:=fs hB 5
     simp only [q5,e4] at wJ ⊢
     go_simp
     exact wJ _ _ _ rfl ⟨_,rfl⟩ (dS wK wI) gR
    refine sm [] (fun _ w9=>∃ (z:Oc) (q:Lg),dr w9 W.heap.size gc z q∧oO z q=true) (fun vs L9 w9 wK wI hB K9 wJ=>?_) ?_
    next =>
     simp only [Act.put] at wJ
     obtain ⟨z,q,⟨TB,tb,OB,ob,e6,h1,h2⟩,Ki⟩:=fs hB 6
     have xx:ai w9 gc 42 [F TA y.t.length tc,F OA y.o.length oc,O U y.gt,O U y.sd,O U y.ms,wG l.D,wG l.P,O U l.n]:=(wI.room (bX.lies 8 gc 42 [F TA y.t.length tc,F OA y.o.length oc,O U y.gt,O U y.sd,O U y.ms,wG l.D,wG l.P,O U l.n]) sP).2 wK.self
     simp only [e6] at wJ ⊢
     obtain ⟨x0,x1,x2,x3,x4,x5,x6,x7⟩:=cells8 xx
     obtain ⟨f0,f1,f2,f3,f4,f5,f6,f7⟩:=frz8 xx
     have Jt:=jZ (dr.put (l:=q) xx h1 h2)
     have yA:=jZ (gw8 w9 gc (F TB z.t.length tb) (F OB z.o.length ob) (O U z.gt) (O U z.sd) (O U z.ms) (wG q.D) (wG q.P) (O U q.n))
     clear h1 h2 xx
     go_simp
     exact wJ _ undef _ rfl ⟨z,q,Jt.out,Ki⟩ (wI.wrote wK.self dD yA.out (fun b e=>by injection e with e; subst e; exact ⟨oM,oM,.inl sP⟩) (by intro p hp e; simp only [List.mem_singleton] at hp; subst hp; exact .inl rfl)) nq
    refine ar fun vs Lq W5 wS yw hB=>?_
    obtain ⟨z,q,LI,LJ⟩:=hB 8 _ rfl rfl dD
    clear hB wS
    have Gz:Hid (CQ w W W5 g A bs cap (m+100100+2100 * (7 - (k - 1))) gc z q):=⟨yw.le.mono oM,yw.lies St.out (by simp only [mC,mN,oF]; omega),LI,eh St.gr yw (by intro k hk wT; simp only [mC,mN,oF] at hk; omega) St.env,l1,hgB,hwW⟩
    have ID:=jZ (wh LJ)
    have AZ:IntKind.i64.wrap ((k:Int) - 1)=(k:Int) - 1:=IntWalk.i64_in _ oM
    have Av:((k:Int) - 1)=((k - 1:Nat):Int):=oM
    have DA:=jZ Av
    clear Av LI LJ yw St hT hO K3 Az EJ CY xf Bf
    go_wp2
    go_roundw
    case rel=>exact ⟨k - 1,z,q,oM,by rw [DA.out],ID,Gz⟩
    case measure=>simp [intOf]; omega
   ·have zZ:k=0:=oM
    subst zZ
    have hlt' : ¬ (0:Int) < ((0:Nat):Int):=oM
    go_wp2_with fail
    go_meet
    case rel=>exact ⟨y,l,Bf.out,HQ.out.mono oM⟩
 case rest =>
  clear HQ Bf
  obtain ⟨y2,l,yi,Q⟩:=hcut
  go_wp2_with fail
  refine (kw Q.env 24 oM oM).mono ?_
  rintro e W5 ⟨b,rfl,E5,gr⟩
  have Q5:=Q.next E5 gr
  clear Q E5 gr
  go_upto_if 27 with fail
  go_cut [] (fun wx=>∃ l2:Lg,CS y2 l2∧CQ w W wx g A bs cap (m+125000) gc y2 l2)
  case first =>
   cases b
   ·go_wp2_with fail
    go_meet
    case rel=>exact ⟨l,yi,Q5.mono oM⟩
   ·go_wp2_with fail
    refine (ss g A bs cap _ w W5 oM Q5.env).mono ?_
    rintro e W6 ⟨l2,rfl,⟨y7, -⟩,E6,gr⟩
    have Q6:=Q5.next E6 gr
    clear Q5 E6 gr
    obtain ⟨TA2,tc2,OA2,oc2,K3,_,_⟩:=Q6.con
    obtain ⟨f0,f1,f2,f3,f4,f5,f6,f7⟩:=frz8 K3
    obtain ⟨c0,c1,c2,c3,c4,c5,c6,c7⟩:=cells8 K3
    have Np:=jZ ((Q6.setLog l2).mono (show _≤m+125000 by omega))
    clear K3 Q6
    go_wp2_with fail
    go_meet
    case rel=>exact ⟨l2,⟨yi.1,yi.2.1,y7⟩,Np.out⟩
  case rest =>
   clear Q5 yi
   obtain ⟨l2,yi,Q⟩:=hcut
   obtain ⟨TA2,tc2,OA2,oc2,K3,hT,hO⟩:=Q.con
   have L2:=Q.out
   obtain ⟨k0,k1,k2,k3,k4,k5,k6,k7⟩:=cells8 K3
   obtain ⟨u0,u1,u2,u3,u4,u5,u6,u7⟩:=cells8 L2
   obtain ⟨f0,f1,f2,f3,f4,f5,f6,f7⟩:=frz8 L2
   obtain ⟨W9,xh⟩ : ∃ W9,((((((((wc.setCell ⟨W.heap.size,0,none⟩ (F TA2 y2.t.length tc2)).setCell ⟨W.heap.size,1,none⟩ (F OA2 y2.o.length oc2)).setCell ⟨W.heap.size,2,none⟩ (O U y2.gt)).setCell ⟨W.heap.size,3,none⟩ (O U y2.sd)).setCell ⟨W.heap.size,4,none⟩ (O U y2.ms)).setCell ⟨W.heap.size,5,none⟩ (wG l2.D)).setCell ⟨W.heap.size,6,none⟩ (wG l2.P)).setCell ⟨W.heap.size,7,none⟩ (O U l2.n))=W9:=⟨_,rfl⟩
   have LS:ai W9 W.heap.size 42 [F TA2 y2.t.length tc2,F OA2 y2.o.length oc2,O U y2.gt,O U y2.sd,O U y2.ms,wG l2.D,wG l2.P,O U l2.n]:=by rw [← xh]; exact nn L2 (F TA2 y2.t.length tc2) (F OA2 y2.o.length oc2) (O U y2.gt) (O U y2.sd) (O U y2.ms) (wG l2.D) (wG l2.P) (O U l2.n)
   have HT:W9.ownsRow W.heap.size 104 2 (F TA2 y2.t.length tc2) y2.t.length (y2.t.flatMap aq.enc):=by rw [← xh]; exact (dt (F TA2 y2.t.length tc2) (F OA2 y2.o.length oc2) (O U y2.gt) (O U y2.sd) (O U y2.ms) (wG l2.D) (wG l2.P) (O U l2.n) L2 hT hO).1
   have HO:W9.ownsRow W.heap.size 147 3 (F OA2 y2.o.length oc2) y2.o.length (y2.o.flatMap ae.enc):=by rw [← xh]; exact (dt (F TA2 y2.t.length tc2) (F OA2 y2.o.length oc2) (O U y2.gt) (O U y2.sd) (O U y2.ms) (wG l2.D) (wG l2.P) (O U l2.n) L2 hT hO).2
   have EE:eZ w W9 g A bs cap (m+125000):=by rw [← xh]; exact Q.env.wrote (gw8 wc W.heap.size (F TA2 y2.t.length tc2) (F OA2 y2.o.length oc2) (O U y2.gt) (O U y2.sd) (O U y2.ms) (wG l2.D) (wG l2.P) (O U l2.n)) oM hgB
   have GG:W.grownBy W9 (some g):=by rw [← xh]; exact bn Q.gr (gw8 wc W.heap.size (F TA2 y2.t.length tc2) (F OA2 y2.o.length oc2) (O U y2.gt) (O U y2.sd) (O U y2.ms) (wG l2.D) (wG l2.P) (O U l2.n)) nR
   have Kj:=jZ xh
   have Bp:=jZ LS
   have CW:=jZ HT
   have CX:=jZ HO
   clear xh LS HT HO L2 K3 hT hO Q
   repeat (first | go_values | go_skip | go_guarded | go_step | go_upon | simp only [])
   rw [Kj.out]
   have LS:=Bp.out
   obtain ⟨x0,x1,x2,x3,x4,x5,x6,x7⟩:=cells8 LS
   refine bodyPost_ret (v:=.agg #[F TA2 y2.t.length tc2,F OA2 y2.o.length oc2,O U y2.gt,O U y2.sd,O U y2.ms,wG l2.D,wG l2.P,O U l2.n]) (by simp [results,Tryz.results61,go_sem,x0,x1,x2,x3,x4,x5,x6,x7]) rfl ?_
   exact ⟨y2,l2,_,rfl,⟨TA2,tc2,OA2,oc2,rfl,CW.out,CX.out⟩,yi,EE.mono oM,GG⟩
structure XS (w wx:World) (A:Option Addr) (bs:List UInt8) (cap m:Nat) (tt:TypeId) (co:List Value) (g5:Nat) (y:Oc) (l:Lg):Prop where
 env:eZ w wx (w.heap.size+1) A bs cap m
 out:ai wx w.heap.size tt co
 con:dr wx (w.heap.size+2) g5 y l
 gr:w.grownBy wx (some (w.heap.size+1))
 l5:w.heap.size+2≤g5
section
variable {w wx wy:World} {A:Option Addr} {bs:List UInt8} {cap m m' g5:Nat} {tt:TypeId} {co:List Value} {y:Oc} {l:Lg}
theorem XS.mono (h:XS w wx A bs cap m tt co g5 y l) (hm:m≤m'):XS w wx A bs cap m' tt co g5 y l:={ h with env:=h.env.mono hm }
theorem XS.next (h:XS w wx A bs cap m tt co g5 y l) (E:eZ w wy (w.heap.size+1) A bs cap m') (hg:wx.grownBy wy (some (w.heap.size+1))):XS w wy A bs cap m' tt co g5 y l :=
 ⟨E,h.out.kept hg iE,h.con.grown hg oM (by have:=h.l5; omega),aA h.gr hg,h.l5⟩
theorem XS.below (h:XS w wx A bs cap m tt co g5 y l) (hb:Below wx.heap.size wx wy):XS w wy A bs cap m tt co g5 y l:=h.next (h.env.below hb) (cn hb _)
theorem XS.alloc (h:XS w wx A bs cap m tt co g5 y l) (o:Obj):XS w (wx.alloc o) A bs cap m tt co g5 y l:=h.next (h.env.alloc o) (World.grownBy_alloc wx o _)
theorem XS.wrote {b:Nat} (h:XS w wx A bs cap m tt co g5 y l) (hg:wx.grownBy wy (some b)) (hb:g5 < b) (hf:∀ (k n:Nat) (v:Value) (e:TypeId) (xs:List Value),e=104 ∨ e=147→wx.ownsRow (w.heap.size+2) e k v n xs→v.ownBlock ≠ some b):XS w wy A bs cap m tt co g5 y l:=by
 obtain ⟨TA,tc,OA,oc,K,hT,hO⟩:=h.con
 exact ⟨h.env.wrote hg (by have:=h.l5; omega) (by have:=h.l5; omega),h.out.kept hg (by intro e; injection e; have:=h.l5; omega),⟨TA,tc,OA,oc,K.kept hg iE,hT.kept hg (.inr (hf _ _ _ _ _ (.inl rfl) hT)),hO.kept hg (.inr (hf _ _ _ _ _ (.inr rfl) hO))⟩,bn h.gr hg (by have:=h.l5; omega),h.l5⟩
theorem XS.setLog (h:XS w wx A bs cap m tt co g5 y l) (l2:Lg):XS w (((wx.setCell ⟨g5,5,none⟩ (wG l2.D)).setCell ⟨g5,6,none⟩ (wG l2.P)).setCell ⟨g5,7,none⟩ (O U l2.n)) A bs cap m tt co g5 y l2:=by
 obtain ⟨TA,tc,OA,oc,K,hT,hO⟩:=h.con
 have hg:=(ab (g:=g5) (i:=7) (u:=O U l2.n) (ab (g:=g5) (i:=6) (u:=wG l2.P) (ab (g:=g5) (i:=5) (u:=wG l2.D) (World.grownBy.refl wx (some g5)))))
 have h5:=h.l5
 exact ⟨h.env.wrote hg oM oM,h.out.kept hg iE,⟨TA,tc,OA,oc,((K.set 5 _).set 6 _).set 7 _,ak hT K fj hg,ak hO K fk hg⟩,bn h.gr hg oM,h5⟩
end
set_option maxRecDepth 100000 in
theorem oH (A:Option Addr) (cap:Nat) (bs:List UInt8) (w:World) (hr:gQ w w.heap.size A bs) :
  Calls wH 31 #[F A bs.length cap] w fun e w'=>∃ (y:Oc) (l:Lg) (v:Value) (t:ByteArray),e=.returned (.tuple #[v,wG t])∧i8 w' w.heap.size y l v∧CS y l∧t.size≤4000∧Below w.heap.size w w':=by
 have b1:Below w.heap.size w ((w.alloc (.cells #[F none 0 0,F none 0 0,O U 0,O U 0,O U 0,wG ⟨#[]⟩,wG ⟨#[]⟩,O U 0] 42)).alloc (.cells #[F A bs.length cap,O U 0,.int .u64 0] 92)):=((Below.refl w.heap.size w).alloc (by exact Nat.le_refl _) (.cells #[F none 0 0,F none 0 0,O U 0,O U 0,O U 0,wG ⟨#[]⟩,wG ⟨#[]⟩,O U 0] 42)).alloc sP (.cells #[F A bs.length cap,O U 0,.int .u64 0] 92)
 have Lc:=ai.newB w (.cells #[F none 0 0,F none 0 0,O U 0,O U 0,O U 0,wG ⟨#[]⟩,wG ⟨#[]⟩,O U 0] 42) 92 #[F A bs.length cap,O U 0,.int .u64 0]
 have L2:=(ai.new w 42 #[F none 0 0,F none 0 0,O U 0,O U 0,O U 0,wG ⟨#[]⟩,wG ⟨#[]⟩,O U 0]).alloc (.cells #[F A bs.length cap,O U 0,.int .u64 0] 92)
 go_enter Tryz.func31,Tryz.ntmps31
 go_wp2_with fail
 generalize ((w.alloc (.cells #[F none 0 0,F none 0 0,O U 0,O U 0,O U 0,wG ⟨#[]⟩,wG ⟨#[]⟩,O U 0] 42)).alloc (.cells #[F A bs.length cap,O U 0,.int .u64 0] 92))=W1 at b1 Lc L2 ⊢
 have E1:eZ w W1 (w.heap.size+1) A bs cap 0:=⟨⟨0,0,Lc,Nat.le_refl _,oM,oM⟩,(bm.below hr b1).mono oM,cn b1 _⟩
 have DE:=Lc.lt
 have G1:=cn b1 (some (w.heap.size+1))
 clear hr Lc b1
 refine (nf (w.heap.size+1) A bs cap 0 w W1 oM E1).mono ?_
 rintro e W2 ⟨y,l,v,rfl,⟨TA,tc,OA,oc,rfl,hT,hO⟩,yi,E2,gr⟩
 have S:XS w (W2.alloc (.cells #[F TA y.t.length tc,F OA y.o.length oc,O U y.gt,O U y.sd,O U y.ms,wG l.D,wG l.P,O U l.n] 42)) A bs cap 130000 42 [F none 0 0,F none 0 0,O U 0,O U 0,O U 0,wG ⟨#[]⟩,wG ⟨#[]⟩,O U 0] W2.heap.size y l:=⟨(E2.alloc _).mono oM,(L2.kept gr iE).alloc _,⟨TA,tc,OA,oc,ai.new W2 _ _,(ah hT oM).alloc _,(ah hO oM).alloc _⟩,di (aA G1 gr) _,by have:=gr.size; omega⟩
 have Bf:=jZ yi
 clear yi hT hO E1 E2 L2 G1 gr
 go_upto_region 3 with fail
 generalize (W2.alloc (.cells #[F TA y.t.length tc,F OA y.o.length oc,O U y.gt,O U y.sd,O U y.ms,wG l.D,wG l.P,O U l.n] 42))=W3 at S ⊢
 have h5:=S.l5
 generalize W2.heap.size=g5 at S h5 ⊢
 clear DE
 obtain ⟨TA,tc,OA,oc,K5,hT,hO⟩:=S.con
 obtain ⟨c0,c1,c2,c3,c4,c5,c6,c7⟩:=cells8 K5
 go_wp2_with fail
 refine (iP (y.at TA tc OA oc) l (show wl (y.at TA tc OA oc) from Bf.out.1) (w.heap.size+1) A bs cap _ w W3 oM (by have:=Bf.out.2.1.1; show y.t.length≤_; omega) (by have:=Bf.out.2.1.2; show y.o.length≤_; omega) S.env ⟨aw hT,aw hO⟩ (fun b e=>by have:=iX hT b e; omega) (fun b e=>by have:=iX hO b e; omega)).mono ?_
 rintro e W6 ⟨t,rfl,ht,E,gr⟩
 have S6:=S.next E gr
 clear S E gr K5 hT hO c0 c1 c2 c3 c4 c5 c6 c7
 go_wp2_with fail
 refine (dF S6.env 5 oM oM).mono ?_
 rintro e W7 ⟨n,rfl,hn,E7,gr⟩
 have HS:=jZ (S6.next E7 gr)
 clear S6 E7 gr
 go_wp2_with fail
 go_loopw [6,7] (fun s6 i wr=>∃ (k:Nat) (t:ByteArray),k≤4∧s6=wG t∧i=O U k∧t.size≤501 * (5 - k)∧Hid (XS w wr A bs cap (140000+300 * (5 - k)) 42 [F none 0 0,F none 0 0,O U 0,O U 0,O U 0,wG ⟨#[]⟩,wG ⟨#[]⟩,O U 0] g5 y l)) (fun _ i _=>(intOf i).toNat)
 case atStart=>exact ⟨n,t,oM,rfl,rfl,oM,HS.out.mono oM⟩
 case round =>
  clear HS hn ht
  obtain ⟨k,t,hk,rfl,rfl,ht,HS⟩:=hrel
  by_cases wQ:0 < k
  ·have hlt' : (0:Int) < (k:Int):=oM
   have AZ:IntKind.i64.wrap ((k:Int) - 1)=(k:Int) - 1:=IntWalk.i64_in _ oM
   have Av:((k:Int) - 1)=((k - 1:Nat):Int):=oM
   have DA:=jZ Av
   clear Av
   have S:=HS.out
   clear HS
   have Gd:(⟨#[10]⟩ : ByteArray).size=1:=rfl
   obtain ⟨TA,tc,OA,oc,K5,hT,hO⟩:=S.con
   obtain ⟨c0,c1,c2,c3,c4,c5,c6,c7⟩:=cells8 K5
   go_wp2_with fail
   refine (iP (y.at TA tc OA oc) l (show wl (y.at TA tc OA oc) from Bf.out.1) (w.heap.size+1) A bs cap _ w wr oM (by have:=Bf.out.2.1.1; show y.t.length≤_; omega) (by have:=Bf.out.2.1.2; show y.o.length≤_; omega) S.env ⟨aw hT,aw hO⟩ (fun b e=>by have:=iX hT b e; omega) (fun b e=>by have:=iX hO b e; omega)).mono ?_
   rintro e W6 ⟨t2,rfl,DD,E,gr⟩
   have S6:=S.next E gr
   clear S E gr K5 hT hO c0 c1 c2 c3 c4 c5 c6 c7
   have HS:=jZ (S6.mono (show _≤140000+300 * (5 - (k - 1)) by omega))
   clear S6
   go_wp2
   go_roundw
   case rel=>exact ⟨k - 1,_,oM,rfl,by rw [DA.out],by simp only [bg]; omega,HS⟩
   case measure=>simp [intOf]; omega
  ·obtain rfl:k=0:=oM
   have S:=HS.out
   clear HS wQ
   have yE : ¬ (0:Int) < ((0:Nat):Int):=oM
   go_wp2_with fail
   refine (kw S.env 20 oM oM).mono ?_
   rintro e W8 ⟨q,rfl,E8,gr⟩
   have S8:=S.next E8 gr
   clear S E8 gr
   go_upto_if 30 with fail
   go_cut [6] (fun s6 wx=>∃ t:ByteArray,s6=wG t∧t.size≤4000∧XS w wx A bs cap 150000 42 [F none 0 0,F none 0 0,O U 0,O U 0,O U 0,wG ⟨#[]⟩,wG ⟨#[]⟩,O U 0] g5 y l)
   case first =>
    cases q
    ·go_wp2_with fail
     go_meet
     case rel=>exact ⟨t,rfl,oM,S8.mono oM⟩
    ·go_wp2_with fail
     refine (dF S8.env 2 oM oM).mono ?_
     rintro e W9 ⟨x,rfl,hx,E9,gr⟩
     have HS:=jZ (S8.next E9 gr)
     clear S8 E9 gr
     have AZ:IntKind.i64.wrap (29+(x:Int))=29+(x:Int):=IntWalk.i64_in _ oM
     go_wp2_with fail
     go_loopw [6,8] (fun s6 i wr=>∃ (k:Nat) (t:ByteArray),k≤30∧s6=wG t∧i=O U k∧t.size≤30 - k∧Hid (XS w wr A bs cap (140000+300 * (5 - 0)+2+2) 42 [F none 0 0,F none 0 0,O U 0,O U 0,O U 0,wG ⟨#[]⟩,wG ⟨#[]⟩,O U 0] g5 y l)) (fun _ i _=>(intOf i).toNat)
     case atStart=>exact ⟨29+x,⟨#[]⟩,oM,rfl,sP,by show 0≤_; omega,HS⟩
     case round =>
      clear HS hx AZ ht
      obtain ⟨k,t,hk,rfl,rfl,ht,HS⟩:=hrel
      by_cases wQ:0 < k
      ·have hlt' : (0:Int) < (k:Int):=oM
       have AZ:IntKind.i64.wrap ((k:Int) - 1)=(k:Int) - 1:=IntWalk.i64_in _ oM
       have Av:((k:Int) - 1)=((k - 1:Nat):Int):=oM
       have DA:=jZ Av
       clear Av
       have Gd:(⟨#[10]⟩ : ByteArray).size=1:=rfl
       go_wp2_with fail
       go_roundw
       case rel=>exact ⟨k - 1,_,oM,rfl,by rw [DA.out],by simp only [bg]; omega,HS⟩
       case measure=>simp [intOf]; omega
      ·obtain rfl:k=0:=oM
       clear wQ
       have yE : ¬ (0:Int) < ((0:Nat):Int):=oM
       go_wp2_with fail
       go_meet
       case rel=>exact ⟨t,rfl,oM,HS.out.mono oM⟩
   case rest =>
    clear S8 ht
    obtain ⟨t,rfl,ht,S⟩:=hcut
    obtain ⟨TA,tc,OA,oc,K5,hT,hO⟩:=S.con
    have L2:=S.out
    obtain ⟨c0,c1,c2,c3,c4,c5,c6,c7⟩:=cells8 K5
    obtain ⟨u0,u1,u2,u3,u4,u5,u6,u7⟩:=cells8 L2
    obtain ⟨f0,f1,f2,f3,f4,f5,f6,f7⟩:=frz8 L2
    obtain ⟨W9,xh⟩ : ∃ W9,((((((((wc.setCell ⟨w.heap.size,0,none⟩ (F TA y.t.length tc)).setCell ⟨w.heap.size,1,none⟩ (F OA y.o.length oc)).setCell ⟨w.heap.size,2,none⟩ (O U y.gt)).setCell ⟨w.heap.size,3,none⟩ (O U y.sd)).setCell ⟨w.heap.size,4,none⟩ (O U y.ms)).setCell ⟨w.heap.size,5,none⟩ (wG l.D)).setCell ⟨w.heap.size,6,none⟩ (wG l.P)).setCell ⟨w.heap.size,7,none⟩ (O U l.n))=W9:=⟨_,rfl⟩
    have LS:ai W9 w.heap.size 42 [F TA y.t.length tc,F OA y.o.length oc,O U y.gt,O U y.sd,O U y.ms,wG l.D,wG l.P,O U l.n]:=by rw [← xh]; exact nn L2 (F TA y.t.length tc) (F OA y.o.length oc) (O U y.gt) (O U y.sd) (O U y.ms) (wG l.D) (wG l.P) (O U l.n)
    have HT:W9.ownsRow w.heap.size 104 2 (F TA y.t.length tc) y.t.length (y.t.flatMap aq.enc):=by rw [← xh]; exact (dt (F TA y.t.length tc) (F OA y.o.length oc) (O U y.gt) (O U y.sd) (O U y.ms) (wG l.D) (wG l.P) (O U l.n) L2 (ah hT oM) (ah hO oM)).1
    have HO:W9.ownsRow w.heap.size 147 3 (F OA y.o.length oc) y.o.length (y.o.flatMap ae.enc):=by rw [← xh]; exact (dt (F TA y.t.length tc) (F OA y.o.length oc) (O U y.gt) (O U y.sd) (O U y.ms) (wG l.D) (wG l.P) (O U l.n) L2 (ah hT oM) (ah hO oM)).2
    have BB:Below w.heap.size w W9:=by rw [← xh]; exact lW (bn S.gr (gw8 wc w.heap.size (F TA y.t.length tc) (F OA y.o.length oc) (O U y.gt) (O U y.sd) (O U y.ms) (wG l.D) (wG l.P) (O U l.n)) nR) oM
    have Kj:=jZ xh
    have Bp:=jZ LS
    have CW:=jZ HT
    have CX:=jZ HO
    have Fq:=jZ BB
    clear xh LS HT HO BB L2 K5 hT hO S
    repeat (first | go_values | go_skip | go_guarded | go_step | go_upon | simp only [])
    rw [Kj.out]
    have LS:=Bp.out
    obtain ⟨x0,x1,x2,x3,x4,x5,x6,x7⟩:=cells8 LS
    refine bodyPost_ret (v:=.tuple #[.agg #[F TA y.t.length tc,F OA y.o.length oc,O U y.gt,O U y.sd,O U y.ms,wG l.D,wG l.P,O U l.n],wG t]) (by simp [results,Tryz.results31,go_sem,x0,x1,x2,x3,x4,x5,x6,x7]) rfl ?_
    exact ⟨y,l,_,t,rfl,⟨TA,tc,OA,oc,rfl,CW.out,CX.out⟩,Bf.out,oM,Fq.out⟩
def oI (w:World) (B:Nat) (A:Option Addr) (m:List dA):Prop:=bm w B 2 A m.length (m.flatMap dA.enc)
theorem oI.of {w:World} {B c:Nat} {A:Option Addr} {m:List dA} (h:w.ownsRow B 62 2 (F A m.length c) m.length (m.flatMap dA.enc)):oI w w.heap.size A m:=(cz.of h).reads
theorem oI.then {w w' : World} {A:Option Addr} {m:List dA} (h:oI w w.heap.size A m) (hb:Below w.heap.size w w'):oI w' w'.heap.size A m:=bm.then h hb
theorem oI.cells {w:World} {B:Nat} {A:Option Addr} {m:List dA} (h:oI w B A m) (wT:0 < m.length):∃ b off,A=some ⟨b,off,none⟩∧b < B∧∀ i (hi:i < m.length) (p:ap B w),
  p.val.cell? ⟨b,off+i * 2,none⟩=some (wG m[i].c)∧p.val.cell? ⟨b,off+i * 2+1,none⟩=some (wG m[i].r):=by
 obtain ⟨b,off,e,hb,hc⟩:=bm.at_ h wT
 refine ⟨b,off,e,hb,fun i hi p=>?_⟩
 have key:∀ j,j < 2→∀ u,(m[i].enc)[j]?=some u→p.val.cell? ⟨b,off+i * 2+j,none⟩=some u:=fun j hj u hu=>by
  rw [p.cell hb,Nat.add_assoc]
  exact hc _ u (by rw [fl dA.enc 2 dA.enc_len m i hi j hj]; exact hu)
 exact ⟨key 0 oM _ rfl,key 1 oM _ rfl⟩
noncomputable def eF (l:Lg):List ((List UInt8 × List UInt8) × Nat):=if l.ok then aG 60 0 (bl l.D++bl l.P) else []
theorem mF {l:List ((List UInt8 × List UInt8) × Nat)} {m m' : List dA} (h:dX l m) (h' : dX l m'):m=m':=by
 unfold dX at h h'
 have e:m.map (fun r=>(bl r.c,bl r.r))=m'.map (fun r=>(bl r.c,bl r.r)):=h.trans h'.symm
 clear h h'
 induction m generalizing m' with
 | nil=>cases m' with
  | nil=>rfl
  | cons y m'=>simp at e
 | cons x m ih=>cases m' with
  | nil=>simp at e
  | cons y m' =>
   simp only [List.map_cons,List.cons.injEq,Prod.mk.injEq] at e
   obtain ⟨⟨e1,e2⟩,e3⟩:=e
   obtain ⟨xc,xr⟩:=x
   obtain ⟨yc,yr⟩:=y
   rw [show xc=yc from ee e1,show xr=yr from ee e2,ih e3]
def Lg.zero:Lg:=⟨⟨#[]⟩,⟨#[]⟩,0⟩
noncomputable def jp (l:Lg):List dA:=(eF l).map fun e=>⟨⟨e.1.1.toArray⟩,⟨e.1.2.toArray⟩⟩
theorem kr (l:Lg):dX (eF l) (jp l):=by
 unfold dX jp
 rw [List.map_map]
 exact List.map_congr_left fun e _=>rfl
noncomputable def jP:List dA→Oc→Lg→Nat→Nat
 | [],_,_,i=>i
 | e :: es,y,l,i=>if lp y l e.c=e.r then jP es (qt y l e.c) (oG y l e.c) (i+1) else i
noncomputable def lq (n:Int) (l:Lg):Bool:=cg n 1 9999 && l.ok
noncomputable def tL (n:Int) (l:Lg):Nat:=if lq n l then jP (jp l) (gy n) Lg.zero 0 else 0
def eN (s:ByteArray):Bool:=decide (s.size≤30000)
noncomputable def gn (s:ByteArray):Nat:=if eN s then cr (aG 60 0 (bl s)) else 0
noncomputable def eV (s:ByteArray):Lg:=if eN s then ⟨s.extract 0 (cr (aG 60 0 (bl s))),⟨#[]⟩,((aG 60 0 (bl s)).length:Nat)⟩ else ⟨⟨#[]⟩,⟨#[]⟩,0⟩
theorem fy {s:ByteArray} (h:eN s=true):eV s=⟨s.extract 0 (cr (aG 60 0 (bl s))),⟨#[]⟩,((aG 60 0 (bl s)).length:Nat)⟩∧gn s=cr (aG 60 0 (bl s)):=by
 unfold eV gn; rw [h]; exact ⟨rfl,rfl⟩
theorem ls {s:ByteArray} : eN s=true ↔ s.size≤30000:=by unfold eN; exact decide_eq_true_iff
theorem vS {l:Lg} {e:dA} (h:dZ l e=0):(cH l e).ok=true∧(∃ n,eF (cH l e)=eF l++[((bl e.c,bl e.r),n)])∧(cH l e).n=((eF (cH l e)).length:Nat) ∧
  eN ((cH l e).D++(cH l e).P)=true∧gn ((cH l e).D++(cH l e).P)=((cH l e).D++(cH l e).P).size∧iv (cH l e)=eV ((cH l e).D++(cH l e).P):=by
 cases wP:(l.ok && e.ok) with
 | false=>rw [(ir wP).2] at h; cases h
 | true =>
  by_cases hn:l.n=60
  ·rw [(fM wP hn).2] at h; cases h
  ·obtain ⟨e1, -⟩:=fQ wP hn
   rw [Bool.and_eq_true] at wP
   obtain ⟨hl,hr⟩:=wP
   have hr:eY (bl e.c) (bl e.r)=true:=hr
   obtain ⟨q1,q2,q3⟩:=ce.1 hl
   have zz:=cW 60 0 (bl l.D++bl l.P)
   have wR:(aG 60 0 (bl l.D++bl l.P)).length < 60:=oM
   have Hy:l.n.toNat=(aG 60 0 (bl l.D++bl l.P)).length:=oM
   have ha:=mE hr 60 0 (bl l.D++bl l.P) (by rw [q1,List.length_append]) wR
   rw [Nat.zero_add] at ha
   obtain ⟨lb,BO⟩ : ∃ lb:ByteArray,lb=⟨(bT l.n.toNat (bl e.c) (bl e.r)).toArray⟩:=⟨_,rfl⟩
   rw [← BO] at e1
   rw [e1]
   have Bt:bl lb=bT (aG 60 0 (bl l.D++bl l.P)).length (bl e.c) (bl e.r):=by rw [BO,bo (bT l.n.toNat (bl e.c) (bl e.r)),Hy]
   clear BO
   have eP:bl (l.P++lb)=bl l.P++bT (aG 60 0 (bl l.D++bl l.P)).length (bl e.c) (bl e.r):=by rw [cE l.P lb,Bt]
   generalize zM:bT (aG 60 0 (bl l.D++bl l.P)).length (bl e.c) (bl e.r)=ln at ha eP Bt
   have Ai:aG 60 0 (bl l.D++bl (l.P++lb))=aG 60 0 (bl l.D++bl l.P)++[((bl e.c,bl e.r),ln.length)]:=by
    rw [eP,← List.append_assoc]; exact ha
   have hlens:cr (aG 60 0 (bl l.D++bl l.P)++[((bl e.c,bl e.r),ln.length)])=(bl l.D).length+((bl l.P).length+ln.length):=by
    have:cr (aG 60 0 (bl l.D++bl l.P)++[((bl e.c,bl e.r),ln.length)])=cr (aG 60 0 (bl l.D++bl l.P))+ln.length:=by simp [cr]
    omega
   have Hj:Lg.ok ⟨l.D,l.P++lb,l.n+1⟩=true:=by
    unfold Lg.ok
    rw [ce]
    simp only
    rw [Ai]
    refine ⟨by rw [hlens,eP,List.length_append],q2,by rw [List.length_append,List.length_singleton]; omega⟩
   have xQ:=fi (D:=bl l.D) (P:=bl (l.P++lb)) (ce.1 Hj).1
   have Dg:eN (l.D++(l.P++lb))=true:=ls.2 (by rw [bg l.D (l.P++lb),← an l.D,← an (l.P++lb)]; exact xQ)
   have xF:cr (aG 60 0 (bl (l.D++(l.P++lb))))=(l.D++(l.P++lb)).size:=by
    rw [cE l.D (l.P++lb),(ce.1 Hj).1,an l.D,an (l.P++lb),bg l.D (l.P++lb)]
   have Ke:eF l=aG 60 0 (bl l.D++bl l.P):=by unfold eF; rw [hl,if_pos rfl]
   have LK:eF ⟨l.D,l.P++lb,l.n+1⟩=aG 60 0 (bl l.D++bl l.P)++[((bl e.c,bl e.r),ln.length)]:=by unfold eF; rw [Hj,if_pos rfl]; exact Ai
   refine ⟨Hj,⟨ln.length,by rw [LK,Ke]⟩,by rw [LK,List.length_append,List.length_singleton]; simp only; omega,Dg,by rw [(fy Dg).2,xF], ?_⟩
   rw [(fy Dg).1,xF]
   unfold iv
   rw [Hj,if_pos rfl]
   simp only
   congr 1
   ·refine nY ?_
    rw [bI,List.drop_zero,List.take_of_length_le (by rw [an]; exact Nat.le_refl _)]
   ·rw [cE l.D (l.P++lb),Ai,List.length_append,List.length_singleton]; omega
theorem vz {l:Lg} {e:dA} (h:dZ l e=0) {m1 m2:List dA} (h1:dX (eF (cH l e)) m1) (h2:dX (eF l) m2):m1=m2++[e]:=by
 obtain ⟨_,⟨n,hn⟩,_⟩:=vS h
 refine mF h1 ?_
 rw [hn]
 unfold dX at h2 ⊢
 rw [List.map_append,List.map_append,h2]; rfl
def PT (s:ByteArray):Prop:=bE (bl s)=true
theorem oJ (n:Int):bE (Lib.itoa n)=true:=by
 have key:∀ m:Nat,∀ b ∈ Lib.decDigits m,ip b=true:=fun m b hb=>by
  have h:=mi m b hb
  have h5:(b != 35)=true:=by
   rw [bne_iff_ne]; rintro rfl
   have:(35:UInt8).toNat=35:=rfl
   omega
  unfold ip
  rw [h5,Bool.and_true,Bool.and_eq_true,decide_eq_true_eq,decide_eq_true_eq]
  omega
 unfold bE
 rw [List.all_eq_true]
 intro b hb
 unfold Lib.itoa at hb
 split at hb
 ·rcases List.mem_cons.1 hb with rfl | hb
  ·decide
  ·exact key _ _ hb
 ·exact key _ _ hb
theorem PT.app {a b:ByteArray} (h:PT a) (h' : PT b):PT (a++b):=by
 unfold PT bE at *
 rw [cE,List.all_append,h,h']; rfl
theorem PT.num (n:Int):PT (bM n):=by unfold PT; rw [bo]; exact oJ n
theorem sV:∀ (l:List (List UInt8)),(∀ t ∈ l,bE t=true)→bE (Lib.join l [32])=true
 | [],_=>rfl
 | x :: r,h=>by
  rw [Lib.join_cons]
  unfold bE Lib.joinTail at *
  rw [List.all_append,h x sP,Bool.true_and,List.all_eq_true]
  intro b hb
  obtain ⟨t,ht,hb⟩:=List.mem_flatten.1 hb
  obtain ⟨u,hu,rfl⟩:=List.mem_map.1 ht
  rcases List.mem_append.1 hb with hb | hb
  ·rw [List.mem_singleton.1 hb]; decide
  ·exact List.all_eq_true.1 (h u (by simp [hu])) b hb
theorem PT.list (l:List Int):PT (fA l):=by
 unfold fA
 split
 ·show bE [110,111,110,101]=true; decide
 ·unfold PT; rw [bo]
  refine sV _ fun t ht=>?_
  obtain ⟨n,_,rfl⟩:=List.mem_map.1 ht
  exact oJ n
theorem PT.tray (x:aO) (k:Int):PT (eI x k):=by
 unfold eI
 split
 ·unfold mw rk
  have h1:PT ⟨#[32,105,110,32]⟩:=(by decide:bE [32,105,110,32]=true)
  have h2:PT ⟨#[32,111,117,116]⟩:=(by decide:bE [32,111,117,116]=true)
  exact (((PT.num _).app h1).app (PT.num _)).app h2
 ·rfl
theorem PT.after (z:aO) (s:df):PT (iz z s):=by
 unfold iz
 split
 ·exact PT.num _
 split
 ·exact PT.num _
 split
 ·exact PT.num _
 exact PT.tray _ _
theorem PT.word {x:aO} {s t:ByteArray} (h:dy x s=some t):PT t:=by
 unfold dy at h
 repeat (split at h; · injection h with h; subst h; exact PT.num _)
 split at h
 ·split at h
  ·injection h with h; subst h; exact PT.num _
  ·cases h
 ·cases h
theorem PT.one {x:aO} {s t:ByteArray} {n:Int} (h:gV x s n=some t):PT t:=by
 unfold gV lj iy kq at h
 repeat' split at h
 all_goals first | (cases h; done) | (injection h with h; subst h; first | exact PT.list _ | exact PT.tray _ _)
theorem PT.make {x:aO} {s:df} {r:Oc × ByteArray} (h:cc x s=some r):PT r.2:=by
 unfold cc at h
 obtain ⟨z,_,rfl⟩:=Option.map_eq_some_iff.1 h
 exact PT.after _ _
theorem PT.run {x:aO} {w0:ByteArray} {ns:List Int} {r:Oc × ByteArray} (h:bH x w0 ns=some r):PT r.2:=by
 unfold bH at h
 split at h
 ·obtain ⟨t,ht,rfl⟩:=Option.map_eq_some_iff.1 h; exact PT.word ht
 ·obtain ⟨t,ht,rfl⟩:=Option.map_eq_some_iff.1 h; exact PT.one ht
 ·obtain ⟨s,_,hs⟩:=Option.bind_eq_some_iff.1 h; exact PT.make hs
 ·obtain ⟨s,_,hs⟩:=Option.bind_eq_some_iff.1 h; exact PT.make hs
 ·cases h
theorem PT.rep (x:aO) (line:ByteArray):PT (jl x line):=by
 unfold jl
 split
 ·show bE [63]=true; decide
 ·rename_i r hr
  split
  ·show bE [108,111,110,103]=true; decide
  ·unfold iZ at hr
   obtain ⟨ns,_,h⟩:=Option.bind_eq_some_iff.1 hr
   exact PT.run h
theorem wi {x:aO} {line:ByteArray} (h:dA.ok ⟨line,⟨#[]⟩⟩=true):dA.ok ⟨line,jl x line⟩=true:=by
 have h:eY (bl line) []=true:=h
 show eY (bl line) (bl (jl x line))=true
 obtain ⟨h1,h2,h3,h4,_,_⟩:=de.1 h
 refine de.2 ⟨h1,h2,h3,h4,PT.rep x line, ?_⟩
 rw [an,tI]; exact oD _
structure sW (y:Oc) (l:Lg) (t:ByteArray):Prop where
 ok:oO y l=true
 code:dZ l ⟨t,lp y l t⟩=0
 log:oG y l t=cH l ⟨t,lp y l t⟩
 n:(oG y l t).n=l.n+1
theorem sX (y:Oc) (l:Lg) (t:ByteArray):sW y l t ∨ (qt y l t=y∧oG y l t=l∧(lp y l t=⟨#[110,111]⟩ ∨ lp y l t=⟨#[98,97,100]⟩ ∨ lp y l t=⟨#[102,117,108,108]⟩)):=by
 by_cases h1:dx y.off l=true
 ·by_cases h2:dA.ok ⟨t,⟨#[]⟩⟩=true
  ·by_cases h3:l.n=60
   ·right
    unfold qt fD oG fS lp gw
    rw [if_pos h1,if_pos h1,if_pos h1,if_pos h2,if_pos h2,if_pos h2,if_pos h3,if_pos h3,if_pos h3]
    exact ⟨rfl,rfl,.inr (.inr rfl)⟩
   ·left
    have e1:lp y l t=jl y.off t:=by unfold lp gw; rw [if_pos h1,if_pos h2,if_neg h3]
    have e2:oG y l t=cH l ⟨t,jl y.off t⟩:=by unfold oG fS; rw [if_pos h1,if_pos h2,if_neg h3]
    have hl:l.ok=true:=(ia.1 h1).2
    have ha:=fQ (show (l.ok && dA.ok ⟨t,jl y.off t⟩)=true by rw [hl,wi h2]; rfl) h3
    exact ⟨h1,by rw [e1]; exact ha.2,by rw [e1,e2],by rw [e2,ha.1]⟩
  ·right
   unfold qt fD oG fS lp gw
   rw [if_pos h1,if_pos h1,if_pos h1,if_neg h2,if_neg h2,if_neg h2]
   exact ⟨rfl,rfl,.inr (.inl rfl)⟩
 ·right
  unfold qt fD oG fS lp gw
  rw [if_neg h1,if_neg h1,if_neg h1]
  exact ⟨rfl,rfl,.inl rfl⟩
theorem mG {l:Lg} (h:l.ok=true):((jp l).length:Int)=l.n:=by
 have:=(ce.1 h).2.2
 unfold jp eF
 rw [if_pos h,List.length_map]
 exact this
theorem sW.recs {y:Oc} {l:Lg} {t:ByteArray} (h:sW y l t):jp (oG y l t)=jp l++[⟨t,lp y l t⟩]:=by
 rw [h.log]
 exact vz h.code (kr _) (kr _)
noncomputable def gW:List dA→Oc→Lg→Option (Oc × Lg)
 | [],y,l=>some (y,l)
 | e :: es,y,l=>if lp y l e.c=e.r then gW es (qt y l e.c) (oG y l e.c) else none
theorem oK:∀ (m:List dA) (y:Oc) (l:Lg) (e:dA),gW (m++[e]) y l=(gW m y l).bind fun p=>if lp p.1 p.2 e.c=e.r then some (qt p.1 p.2 e.c,oG p.1 p.2 e.c) else none
 | [],y,l,e=>rfl
 | a :: m,y,l,e=>by
  rw [List.cons_append,gW,gW]
  split
  ·exact oK m _ _ e
  ·rfl
theorem mH:∀ (m:List dA) (y:Oc) (l:Lg) (i:Nat) {p:Oc × Lg},gW m y l=some p→jP m y l i=i+m.length
 | [],_,_,_,_,_=>rfl
 | e :: m,y,l,i,p,h=>by
  unfold gW at h
  unfold jP
  split at h
  ·rename_i he
   rw [if_pos he,mH m _ _ _ h,List.length_cons]; omega
  ·cases h
structure ks (n:Int) (y:Oc) (l:Lg):Prop where
 ok:oO y l=true
 play:gW (jp l) (gy n) Lg.zero=some (y,l)
theorem ks.step {n:Int} {y:Oc} {l:Lg} (h:ks n y l) (t:ByteArray):ks n (qt y l t) (oG y l t):=by
 rcases sX y l t with hL | ⟨e1,e2,_⟩
 ·refine ⟨nz t h.ok, ?_⟩
  rw [hL.recs,oK,h.play,Option.bind_some,if_pos rfl]
 ·rw [e1,e2]; exact h
theorem ks.all {n:Int} {y:Oc} {l:Lg} (h:ks n y l) (hn:cg n 1 9999=true):lq n l=true∧(tL n l:Int)=l.n:=by
 have hl:=(ia.1 h.ok).2
 have h1:lq n l=true:=by unfold lq; rw [hn,hl]; rfl
 refine ⟨h1, ?_⟩
 unfold tL
 rw [if_pos h1,mH _ _ _ _ h.play,← mG hl]; omega
theorem rG (b:UInt8) (s:List UInt8):∃ (t:List UInt8) (r:List (List UInt8)),aI b s=t :: r∧aI b t = [t]∧t.length≤s.length:=by
 obtain ⟨ps,h1,_⟩:=gD b s
 refine ⟨cP b s,ps,h1,jC (fG b s), ?_⟩
 rcases kh b s with ⟨_,h2⟩ | ⟨r,h⟩
 ·rw [h2]; exact Nat.le_refl _
 ·have:=congrArg List.length h
  rw [List.length_append] at this; omega
theorem lX:∀ (ts:List (List UInt8)) (y:Oc) (l:Lg) (acc:List ByteArray),∃ r,ck ts y l acc=acc++r
 | [],_,_,acc=>⟨[],by rw [ck,List.append_nil]⟩
 | t :: ts,y,l,acc=>by
  obtain ⟨r,hr⟩:=lX ts (qt y l ⟨t.toArray⟩) (oG y l ⟨t.toArray⟩) (acc++[lp y l ⟨t.toArray⟩])
  exact ⟨lp y l ⟨t.toArray⟩ :: r,by rw [ck,hr,List.append_assoc]; rfl⟩
theorem qq {y:Oc} {l:Lg} {s:ByteArray} (h:cl y l s=true):∃ (t:ByteArray) (r:List (List UInt8)),aI 10 (bl s)=bl t :: r∧t.size≤4000∧cl y l t=true∧dE y l t = [lp y l t]∧∃ r',dE y l s=lp y l t :: r':=by
 obtain ⟨t,r,h1,h2,h3⟩:=rG 10 (bl s)
 have hs:=h
 unfold cl at hs
 simp only [Bool.and_eq_true,decide_eq_true_eq] at hs
 have hb:bl (⟨t.toArray⟩ : ByteArray)=t:=bo t
 have hz:(⟨t.toArray⟩ : ByteArray).size≤4000:=by rw [← an,hb]; rw [an] at h3; omega
 have hk:cl y l ⟨t.toArray⟩=true:=by
  unfold cl
  rw [hb,h2,hs.1.1,jD hz]; rfl
 refine ⟨⟨t.toArray⟩,r,by rw [hb]; exact h1,hz,hk, ?_, ?_⟩
 ·unfold dE
  rw [if_pos hk,hb,h2]; rfl
 ·unfold dE
  rw [if_pos h,h1,ck]
  obtain ⟨r',hr⟩:=lX r (qt y l ⟨t.toArray⟩) (oG y l ⟨t.toArray⟩) ([]++[lp y l ⟨t.toArray⟩])
  exact ⟨r',hr⟩
abbrev rH (m:List ByteArray):List Value:=m.map Value.string
def pa (w:World) (B:Nat) (A:Option Addr) (m:List ByteArray):Prop:=bm w B 1 A m.length (rH m)
abbrev ku (w:World) (B:Nat) (A:Option Addr) (c:Nat) (m:List ByteArray):Prop:=w.ownsRow B 9 1 (F A m.length c) m.length (rH m)
theorem ku.reads {w:World} {B c:Nat} {A:Option Addr} {m:List ByteArray} (h:ku w B A c m):pa w w.heap.size A m:=(cz.of h).reads
theorem pa.then {w w' : World} {A:Option Addr} {m:List ByteArray} (h:pa w w.heap.size A m) (hb:Below w.heap.size w w'):pa w' w'.heap.size A m:=bm.then h hb
theorem vA (m:List ByteArray) (i:Nat) (h:i < m.length):(rH m)[i]?=some (wG m[i]):=by simp [rH,h]
theorem pa.cells {w:World} {B:Nat} {A:Option Addr} {m:List ByteArray} (h:pa w B A m) (wT:0 < m.length):∃ b off,A=some ⟨b,off,none⟩∧b < B∧∀ i (hi:i < m.length) (p:ap B w),p.val.cell? ⟨b,off+i,none⟩=some (wG m[i]):=by
 obtain ⟨b,off,e,hb,hc⟩:=bm.at_ h wT
 exact ⟨b,off,e,hb,fun i hi p=>by rw [p.cell hb]; exact hc _ _ (vA m i hi)⟩
theorem tM:(wH.info? 9).map (fun i=>(i.zero,i.size,i.bytes))=some (some (wG ⟨#[]⟩),1,16):=kZ
theorem tN:9 ≠ 42:=dD
theorem vB {w0 w:World} {B g:Nat} {t:TypeId} {x0 x1 x2 x3 x4 x5 x6 x7:Value} (hL:ai w g t [x0,x1,x2,x3,x4,x5,x6,x7]) (b:Below B w0 w) (hB:B≤g) (a0 a1 a2 a3 a4 a5 a6 a7:Value) :
  ∃ W' : World,Hid ((((((((w.setCell ⟨g,0,none⟩ a0).setCell ⟨g,1,none⟩ a1).setCell ⟨g,2,none⟩ a2).setCell ⟨g,3,none⟩ a3).setCell ⟨g,4,none⟩ a4).setCell ⟨g,5,none⟩ a5).setCell ⟨g,6,none⟩ a6).setCell ⟨g,7,none⟩ a7=W')∧ai W' g t [a0,a1,a2,a3,a4,a5,a6,a7]∧Below B w0 W'∧w.grownBy W' (some g) :=
 ⟨_,rfl,nn hL a0 a1 a2 a3 a4 a5 a6 a7,eX b hB a0 a1 a2 a3 a4 a5 a6 a7,ab (ab (ab (ab (ab (ab (ab (ab (World.grownBy.refl w (some g)))))))))⟩
def eQ (w:World) (m:List ByteArray) (ok:Bool) (e:Ending) (w' : World):Prop:=∃ A c,e=.returned (.tuple #[F A m.length c,.bool ok])∧ku w' w.heap.size A c m∧Below w.heap.size w w'
theorem eQ.mk {w w' : World} {m m' : List ByteArray} {ok ok' : Bool} {A:Option Addr} {c n:Nat} (hm:m=m') (ho:ok=ok') (hn:m'.length=n) (h:ku w' w.heap.size A c m') (hb:Below w.heap.size w w'):eQ w m ok (.returned (.tuple #[F A n c,.bool ok'])) w':=by
 subst hm; subst ho; subst hn; exact ⟨A,c,rfl,h,hb⟩
theorem vC {y:Oc} {l:Lg} {s:ByteArray} (h:oO y l=false ∨ 4000 < s.size ∨ 30 < (aI 10 (bl s)).length):cl y l s=false∧dE y l s = []:=by
 have key:cl y l s=false:=by
  unfold cl
  rcases h with h | h | h
  ·rw [h]; rfl
  ·rw [jE (show ¬ s.size≤4000 by omega),Bool.and_false,Bool.false_and]
  ·rw [jE (show ¬ (aI 10 (bl s)).length≤30 by omega),Bool.and_false]
 exact ⟨key,by unfold dE; rw [key]; rfl⟩
theorem tO {y:Oc} {l:Lg} {s:ByteArray} (h:oO y l=true) (h1:s.size≤4000) (h2:(aI 10 (bl s)).length≤30):cl y l s=true∧dE y l s=ck (aI 10 (bl s)) y l []:=by
 have key:cl y l s=true:=by
  unfold cl
  rw [h,jD h1,jD h2]; rfl
 exact ⟨key,by unfold dE; rw [key]; rfl⟩
theorem vD (m:List ByteArray) (t:ByteArray):rH m++[wG t]=rH (m++[t]):=by simp [rH]
theorem ku.push {w:World} {B n:Nat} {m:List ByteArray} {t:ByteArray} {v:Value} (h:w.ownsRow B 9 1 v (n+1) (rH m++[wG t])) (hn:m.length=n):∃ A c,v=F A (n+1) c∧ku w B A c (m++[t]):=by
 obtain ⟨A,c,rfl⟩:=az h
 refine ⟨A,c,rfl, ?_⟩
 unfold ku
 rw [show (m++[t]).length=n+1 by rw [List.length_append,hn]; rfl,← vD]; exact h
theorem vE {w:World} {B:Nat} {e:TypeId} {k:Nat} {v:Value} {n:Nat} {xs:List Value} (h:w.ownsRow B e k v n xs) {g:Nat} (hg:v.ownBlock=some g):∃ cs,ai w g e cs:=by
 obtain ⟨_,⟨h0,_⟩ | ⟨g',cap,cur,hv,_,hh,_⟩⟩:=h
 ·subst h0; cases hg
 ·subst hv; injection hg with hg; subst hg; exact ⟨_,ai.of hh⟩
def lY (w:World) (B:Nat) (A:Option Addr) (c:Nat) (m:List ByteArray):Prop:=ku w B A c m ∨ (m = []∧c=0∧∃ g,A=some ⟨g,0,none⟩)
theorem lY.below {w w' : World} {B:Nat} {A:Option Addr} {c:Nat} {m:List ByteArray} (h:lY w B A c m) (hb:Below w.heap.size w w'):lY w' B A c m:=by
 rcases h with h | h
 ·exact .inl (ac h hb)
 ·exact .inr h
theorem lY.kept {w w' : World} {B:Nat} {A:Option Addr} {c:Nat} {m:List ByteArray} (h:lY w B A c m) {g:Nat} {t:TypeId} {cs:List Value} (hL:ai w g t cs) (wT:9 ≠ t) (hg:w.grownBy w' (some g)):lY w' B A c m:=by
 rcases h with h | h
 ·exact .inl (ak h hL wT hg)
 ·exact .inr h
structure wj (w:World) (B:Nat) (row:Option Nat):Prop where
 lt:∀ b,row=some b→B≤b∧b < w.heap.size
 far:∀ (g:Nat) (t:TypeId) (cs:List Value),9 ≠ t→ai w g t cs→some g ≠ row
theorem wj.own {w w' : World} {B:Nat} {row:Option Nat} (h:wj w B row) (hg:w.grownBy w' row) {B' : Nat} {e:TypeId} {k:Nat} {v:Value} {n:Nat} {xs:List Value} (ho:w.ownsRow B' e k v n xs) (wT:9 ≠ e):w'.ownsRow B' e k v n xs:=by
 refine ho.kept hg ?_
 cases hv:v.ownBlock with
 | none=>exact .inl rfl
 | some g =>
  obtain ⟨cs,hL⟩:=vE ho hv
  exact .inr (h.far g e cs wT hL)
theorem lZ {ops:Array Oper} {rest:List Oper} {o:Oper} {a:Act} {w0 wA:World} {Q:Exit→Act→World→Prop} (yF:o.guard=none) (s x:Operand)
  (ho:o.op=.call { callee:=.builtin .append,args:=#[s,x],argTypes:=#[49,49] })
  (B:Nat) (A:Option Addr) (c n:Nat) (m:List ByteArray) (hs:a.eval s=F A n c) (hn:m.length=n) (xg:Hid (lY w0 B A c m)) (t:ByteArray)
  (cx g:Nat) (hx:a.eval x=F (some ⟨g,0,none⟩) 1 cx) (hg:w0.heap.size=g) (Df:n < 1000000) (hbase:B≤w0.heap.size)
  (hheap:wA.heap=(w0.alloc (.cells #[wG t] 9)).heap) (DK:wA.os=w0.os) (htape:wA.tape=w0.tape) (BZ:wA.output=w0.output)
  (h:∀ A' c' w' row,Hid (ku w' B A' c' (m++[t]))→w0.grownBy w' row→wj w0 B row→Below B w0 w'→wpList wH ops Q rest (a.put o.dst (F A' (n+1) c')) w'):wpList wH ops Q (o :: rest) a wA:=by
 subst hn
 rcases xg.out with ht | ⟨rfl,rfl,g1,rfl⟩
 ·refine cF (w0:=w0) yF s x _ ho 9 _ 1 16 Tryz.underlying49 tM rfl oM oM B _ _ _ hs (jZ ht) #[wG t] cx g hx hg rfl (by simp [Value.oneCell']) oM hbase hheap DK htape BZ ?_
  intro v' w' h1 h2 h3
  obtain ⟨A',c',rfl,h4⟩:=ku.push h1.out rfl
  exact h A' c' w' _ (jZ h4) h2 ⟨fun b hb=>ht.lt b hb,fun g t cs wT hL=>bB ht hL wT⟩ h3
 ·subst hg
  obtain ⟨i,hi,hz,hs',hb⟩:=info_parts tM
  have hsize:wA.heap.size=w0.heap.size+1:=by rw [hheap]; exact Array.size_push _
  have hblock:∀ j,j < w0.heap.size→wA.heap[j]?=w0.heap[j]?:=fun j hj=>by rw [hheap]; exact Below.heap_alloc w0 _ j hj
  refine wpList_plain yF fun _ hK=>?_
  have key:=fun K Q' hh=>Go.step_append_grows (P:=wH) (ops:=#[]) (a:=a) (w:=wA) (K:=K) (Q:=Q') (E:=True) yF s x _ ho 9 i _ 1 16 Tryz.underlying49 hi hz hs' hb rfl oM (some ⟨g1,0,none⟩) 0 0 [] hs sP sP sP ⟨w0.heap.size,0,none⟩ 1 cx [wG t] hx rfl (fun j u hj=>by
   have:=mg w0 #[wG t] 9 j u hj
   rw [← this]; exact World.cell?_of_block (by rw [hheap])) (by simp [Value.oneCell']) oM (by unfold maxLen; omega) oM hh
  have Nq:Region.wanted o (yielded (#[] : Array Oper) a.tmps)=true:=by simp [Region.wanted,yF]
  simp only [Nq,if_true] at key
  refine key _ _ fun v' w' h1 h2=>?_
  rw [Nat.zero_add,List.nil_append] at h1
  obtain ⟨A',c',rfl⟩:=az h1
  have gr:w0.grownBy w' none:=⟨h2.os.trans DK,h2.tape.trans htape,h2.output.trans BZ,by have:=h2.size; omega,fun j hj _=>(h2.block j oM sP).trans (hblock j hj)⟩
  exact hK _ _ (h A' c' w' none (jZ (ah h1 oM)) gr ⟨fun b hb=>(by cases hb),fun _ _ _ _ _=>by simp⟩ ((Below.refl B w0).grown gr hbase (fun j hj=>by cases hj)))
end Go.Proofs.YtoeoimhemojdeaaGreatDoor
