/- Lemmas. -/
import Derived.Deep.CutBlock
import Derived.StillTailTactics
import Derived.Deep.DeepCutAuto
import Derived.Test.YtoeoimhemojdeaaGreatDoorFr16

set_option linter.unusedVariables false
set_option linter.unusedSimpArgs false
set_option maxHeartbeats 8000000
open Go.Value renaming int → O, slice → F, string → xh
open Go.IntKind renaming i64 → U
open Go.Proofs.Tryz renaming prog → xi

namespace Go.Proofs.YtoeoimhemojdeaaGreatDoor
open Go.RowKit
def CS (y:Oc) (l:Lg):Prop:=wh y∧(y.t.length≤20∧y.o.length≤20)∧wQ l
theorem tj {y:Oc} {l:Lg} (h:mL y l=true):CS y l:=by
 obtain ⟨h1,h2⟩:=im.1 h
 have G:=bu.1 (show ap (y.at none 0 none 0)=true from h1)
 have g1:y.t.length≤8:=G.tl
 have g2:y.o.length≤8:=G.ol
 obtain ⟨q1,_,q3⟩:=ce.1 h2
 have hs:=fl q1
 have hl:=cW 60 0 (bl l.D++bl l.P)
 rw [ao,ao] at hs
 exact ⟨n9 h1,⟨oM,oM⟩,oM,oM,oM⟩
theorem gX.grown {W W' : World} {B g:Nat} {y:Oc} {l:Lg} {v:Value} (h:gX W B y l v) (hg:W.grownBy W' (some g)) (hB:g < B):gX W' B y l v:=by
 obtain ⟨TA,tc,OA,oc,e,h1,h2⟩:=h
 exact ⟨TA,tc,OA,oc,e,cj h1 hg hB,cj h2 hg hB⟩
theorem cn.grown {W W' : World} {B g h:Nat} {y:Oc} {l:Lg} (hI:cn W B h y l) (hg:W.grownBy W' (some g)) (hB:g < B) (xw:g ≠ h):cn W' B h y l:=by
 obtain ⟨TA,tc,OA,oc,hL,h1,h2⟩:=hI
 exact ⟨TA,tc,OA,oc,hL.kept hg (by intro e; injection e with e; exact xw e.symm),cj h1 hg hB,cj h2 hg hB⟩
structure CQ (w W wx:World) (g:Nat) (A:Option Addr) (bs:List UInt8) (cap m gc:Nat) (y:Oc) (l:Lg):Prop where
 env:fb w wx g A bs cap m
 out:ai wx W.heap.size 42 [F none 0 0,F none 0 0,O U 0,O U 0,O U 0,xh ⟨#[]⟩,xh ⟨#[]⟩,O U 0]
 con:cn wx W.heap.size gc y l
 gr:W.grownBy wx (some g)
 l1:W.heap.size < gc
 lt:g < W.heap.size
 ww:w.heap.size≤W.heap.size
section
variable {w W wx wy:World} {g:Nat} {A:Option Addr} {bs:List UInt8} {cap m m' gc:Nat} {y:Oc} {l:Lg}
theorem CQ.mono (h:CQ w W wx g A bs cap m gc y l) (hm:m≤m'):CQ w W wx g A bs cap m' gc y l:={ h with env:=h.env.mono hm }
theorem CQ.next (h:CQ w W wx g A bs cap m gc y l) (E:fb w wy g A bs cap m') (hg:wx.grownBy wy (some g)):CQ w W wy g A bs cap m' gc y l :=
 ⟨E,h.out.kept hg (by intro e; injection e; have:=h.lt; omega),h.con.grown hg h.lt (by have:=h.lt; have:=h.l1; omega),aA h.gr hg,h.l1,h.lt,h.ww⟩
theorem CQ.setLog (h:CQ w W wx g A bs cap m gc y l) (l2:Lg):CQ w W (((wx.setCell ⟨gc,5,none⟩ (xh l2.D)).setCell ⟨gc,6,none⟩ (xh l2.P)).setCell ⟨gc,7,none⟩ (O U l2.n)) g A bs cap m gc y l2:=by
 obtain ⟨TA,tc,OA,oc,K,hT,hO⟩:=h.con
 have hg:=(ab (g:=gc) (i:=7) (u:=O U l2.n) (ab (g:=gc) (i:=6) (u:=xh l2.P) (ab (g:=gc) (i:=5) (u:=xh l2.D) (World.grownBy.refl wx (some gc)))))
 have l1:=h.l1
 have lt:=h.lt
 have ww:=h.ww
 exact ⟨h.env.wrote hg oM oM,h.out.kept hg iE,⟨TA,tc,OA,oc,((K.set 5 _).set 6 _).set 7 _,ak hT K eZ hg,ak hO K fa hg⟩,bf h.gr hg oM,l1,lt,ww⟩
theorem CQ.below (h:CQ w W wx g A bs cap m gc y l) (hb:Below wx.heap.size wx wy):CQ w W wy g A bs cap m gc y l:=h.next (h.env.below hb) (bJ hb _)
end
set_option maxRecDepth 100000 in
theorem nl (g:Nat) (A:Option Addr) (bs:List UInt8) (cap m:Nat) (w W:World) (hm:m≤500000000) (E0:fb w W g A bs cap m) :
  Calls xi 61 #[.pointer (some ⟨g,0,none⟩)] W fun e w'=>∃ (y:Oc) (l:Lg) (v:Value),e=.returned v∧gX w' W.heap.size y l v∧CS y l∧fb w w' g A bs cap (m+130000)∧W.grownBy w' (some g):=by
 have hgB:=E0.lt
 have hwW:=E0.gr.size
 have L2:=ai.new W 42 #[F none 0 0,F none 0 0,O U 0,O U 0,O U 0,xh ⟨#[]⟩,xh ⟨#[]⟩,O U 0]
 have E2:=E0.alloc (.cells #[F none 0 0,F none 0 0,O U 0,O U 0,O U 0,xh ⟨#[]⟩,xh ⟨#[]⟩,O U 0] 42)
 have G2:W.grownBy (W.alloc (.cells #[F none 0 0,F none 0 0,O U 0,O U 0,O U 0,xh ⟨#[]⟩,xh ⟨#[]⟩,O U 0] 42)) (some g):=World.grownBy_alloc _ _ _
 have xY:W.heap.size < (W.alloc (.cells #[F none 0 0,F none 0 0,O U 0,O U 0,O U 0,xh ⟨#[]⟩,xh ⟨#[]⟩,O U 0] 42)).heap.size:=sP
 clear E0
 go_enter Tryz.func61,Tryz.ntmps61
 go_wp2_with fail
 generalize (W.alloc (.cells #[F none 0 0,F none 0 0,O U 0,O U 0,O U 0,xh ⟨#[]⟩,xh ⟨#[]⟩,O U 0] 42))=W1 at L2 E2 G2 xY ⊢
 refine (ri g A bs cap m w W1 oM E2).mono ?_
 rintro e W2 ⟨y,v,rfl,⟨TA,tc,OA,oc,rfl,hT,hO⟩,Ma,BO,E3,gr3⟩
 have L3:=L2.kept gr3 iE
 have G3:=aA G2 gr3
 have Cz:=gr3.size
 have hT:=ag hT (Nat.le_of_lt xY)
 have hO:=ag hO (Nat.le_of_lt xY)
 clear gr3 E2 L2 G2
 have Q:CQ w W (W2.alloc (.cells #[F TA y.t.length tc,F OA y.o.length oc,O U y.gt,O U y.sd,O U y.ms,xh ⟨#[]⟩,xh ⟨#[]⟩,O U 0] 42)) g A bs cap (m+100000) W2.heap.size y ⟨⟨#[]⟩,⟨#[]⟩,0⟩:=⟨E3.alloc _,L3.alloc _,⟨TA,tc,OA,oc,ai.new W2 _ _,hT.alloc _,hO.alloc _⟩,cr G3 _,oM,hgB,hwW⟩
 have BN:Hid (CS y ⟨⟨#[]⟩,⟨#[]⟩,0⟩):=⟨BO,Ma,dD,dD,dD⟩
 clear hT hO BO Ma E3 L3 G3
 go_wp2_with fail
 generalize (W2.alloc (.cells #[F TA y.t.length tc,F OA y.o.length oc,O U y.gt,O U y.sd,O U y.ms,xh ⟨#[]⟩,xh ⟨#[]⟩,O U 0] 42))=W3 at Q ⊢
 generalize W2.heap.size=gc at Q ⊢
 have l1:=Q.l1
 refine (dp Q.env 7 oM oM).mono ?_
 rintro e W4 ⟨n,rfl,hn,E4,gr4⟩
 have HQ:=jZ (Q.next E4 gr4)
 clear Q E4 gr4 Cz xY
 go_upto_block 0 with fail
 go_cut [] (fun wx=>∃ (y:Oc) (l:Lg),CS y l∧CQ w W wx g A bs cap (m+120000) gc y l)
 case first =>
  go_wp2_with fail
  go_loopw [4] (fun i wr=>∃ (k:Nat) (y:Oc) (l:Lg),k≤6∧i=O U k∧Hid (CS y l)∧Hid (CQ w W wr g A bs cap (m+100100+2100 * (7 - k)) gc y l)) (fun i _=>(intOf i).toNat)
  case atStart=>exact ⟨n,y,⟨⟨#[]⟩,⟨#[]⟩,0⟩,oM,rfl,BN,HQ.out.mono oM⟩
  case round =>
   clear HQ BN hn
   obtain ⟨k,y,l,hk,rfl,BN,HQ⟩:=hrel
   by_cases xu:0 < k
   ·have hlt' : (0:Int) < k:=oM
    have St:=HQ.out
    obtain ⟨TA,tc,OA,oc,K3,hT,hO⟩:=St.con
    obtain ⟨zM,⟨JV,JW⟩,Cq,_,_⟩:=BN.out
    have Bf:=jZ zM
    clear zM
    obtain ⟨c0,c1,c2,c3,c4,c5,c6,c7⟩:=cells8 K3
    go_wp2_with fail
    refine (fU (y.at TA tc OA oc) l wr ⟨an hT,an hO⟩ oM).mono ?_
    rintro e w1 ⟨rfl,hb⟩
    have zT:Hid (mL y l=eu (y.at TA tc OA oc) l):=(wu (y.at TA tc OA oc) l).symm
    obtain ⟨bb,yp⟩ : ∃ bb,eu (y.at TA tc OA oc) l=bb:=⟨_,rfl⟩
    rw [yp] at zT ⊢
    clear yp
    replace St:=St.below hb
    replace hT:=ac hT hb
    replace hO:=ac hO hb
    replace K3:=K3.below hb K3.lt
    clear hb HQ c0 c1 c2 c3 c4 c5 c6 c7
    cases bb
    ·go_wp2_with fail
     go_meet
     case rel=>exact ⟨y,l,BN.out,St.mono oM⟩
    have xF:=zT
    clear zT
    have Fm:(y.at TA tc OA oc).t.length≤100000:=by show y.t.length≤_; omega
    have KM:(y.at TA tc OA oc).o.length≤100000:=by show y.o.length≤_; omega
    have Av:Hid (∀ b,Value.ownBlock (F TA y.t.length tc)=some b→b ∉ [g,gc]):=by
     intro b hb hm; simp only [mC,mN,oF] at hm
     have:=(hT.lt b hb).1
     rcases hm with rfl | rfl; omega; exact bn hT K3 eZ hb.symm
    have Dn:Hid (∀ b,Value.ownBlock (F OA y.o.length oc)=some b→b ∉ [g,gc]):=by
     intro b hb hm; simp only [mC,mN,oF] at hm
     have:=(hO.lt b hb).1
     rcases hm with rfl | rfl; omega; exact bn hO K3 fa hb.symm
    have Ac:Hid (∀ p ∈ [bp.lies 8 gc 42 [F TA y.t.length tc,F OA y.o.length oc,O U y.gt,O U y.sd,O U y.ms,xh l.D,xh l.P,O U l.n]],p.blk ≠ some g∧p.P w1):=by
     intro p hp; simp only [List.mem_singleton] at hp; subst hp; exact ⟨by intro e; injection e; omega,K3⟩
    have EH:=St.gr.size
    have xC:=K3.lt
    go_wp2_with fail
    refine al (Dr w w1 g A bs cap (m+100100+2100 * (7 - k)) 210 9 [g,gc] [bp.lies 8 gc 42 [F TA y.t.length tc,F OA y.o.length oc,O U y.gt,O U y.sd,O U y.ms,xh l.D,xh l.P,O U l.n]]) (fun i w1 w2=>i ∉ [8]→w1.grownBy w2 (some g)) kZ kZ kZ (Dr.start St.env Ac.out) ?_
    simp only [ax,Act.put,sA,gs0,gs1,Nat.zero_add,Nat.reduceAdd]
    apply aa
    case h1 =>
     intro vs L9 w9 xl xj hB K9 xk
     have q0:w9.cell? ⟨gc,0,none⟩=some (F TA y.t.length tc):=((xj.room (bp.lies 8 gc 42 [F TA y.t.length tc,F OA y.o.length oc,O U y.gt,O U y.sd,O U y.ms,xh l.D,xh l.P,O U l.n]) sP).2 (xl.open_ 8 kZ)).cell 0
     have q1:w9.cell? ⟨gc,1,none⟩=some (F OA y.o.length oc):=((xj.room (bp.lies 8 gc 42 [F TA y.t.length tc,F OA y.o.length oc,O U y.gt,O U y.sd,O U y.ms,xh l.D,xh l.P,O U l.n]) sP).2 (xl.open_ 8 kZ)).cell 1
     have q2:w9.cell? ⟨gc,2,none⟩=some (O U y.gt):=((xj.room (bp.lies 8 gc 42 [F TA y.t.length tc,F OA y.o.length oc,O U y.gt,O U y.sd,O U y.ms,xh l.D,xh l.P,O U l.n]) sP).2 (xl.open_ 8 kZ)).cell 2
     have q3:w9.cell? ⟨gc,3,none⟩=some (O U y.sd):=((xj.room (bp.lies 8 gc 42 [F TA y.t.length tc,F OA y.o.length oc,O U y.gt,O U y.sd,O U y.ms,xh l.D,xh l.P,O U l.n]) sP).2 (xl.open_ 8 kZ)).cell 3
     have q4:w9.cell? ⟨gc,4,none⟩=some (O U y.ms):=((xj.room (bp.lies 8 gc 42 [F TA y.t.length tc,F OA y.o.length oc,O U y.gt,O U y.sd,O U y.ms,xh l.D,xh l.P,O U l.n]) sP).2 (xl.open_ 8 kZ)).cell 4
     have q5:w9.cell? ⟨gc,5,none⟩=some (xh l.D):=((xj.room (bp.lies 8 gc 42 [F TA y.t.length tc,F OA y.o.length oc,O U y.gt,O U y.sd,O U y.ms,xh l.D,xh l.P,O U l.n]) sP).2 (xl.open_ 8 kZ)).cell 5
     have q6:w9.cell? ⟨gc,6,none⟩=some (xh l.P):=((xj.room (bp.lies 8 gc 42 [F TA y.t.length tc,F OA y.o.length oc,O U y.gt,O U y.sd,O U y.ms,xh l.D,xh l.P,O U l.n]) sP).2 (xl.open_ 8 kZ)).cell 6
     have q7:w9.cell? ⟨gc,7,none⟩=some (O U l.n):=((xj.room (bp.lies 8 gc 42 [F TA y.t.length tc,F OA y.o.length oc,O U y.gt,O U y.sd,O U y.ms,xh l.D,xh l.P,O U l.n]) sP).2 (xl.open_ 8 kZ)).cell 7
     simp only [Act.put,sA,gs0,gs1] at xk
     go_simp
     exact xk _ _ rfl (dS xl xj) gR
    refine aa _ vd0 ?_
    apply aa
    case h1 =>
     intro vs L9 w9 xl xj hB K9 xk
     have q0:w9.cell? ⟨gc,0,none⟩=some (F TA y.t.length tc):=((xj.room (bp.lies 8 gc 42 [F TA y.t.length tc,F OA y.o.length oc,O U y.gt,O U y.sd,O U y.ms,xh l.D,xh l.P,O U l.n]) sP).2 (xl.open_ 8 kZ)).cell 0
     have q1:w9.cell? ⟨gc,1,none⟩=some (F OA y.o.length oc):=((xj.room (bp.lies 8 gc 42 [F TA y.t.length tc,F OA y.o.length oc,O U y.gt,O U y.sd,O U y.ms,xh l.D,xh l.P,O U l.n]) sP).2 (xl.open_ 8 kZ)).cell 1
     have q2:w9.cell? ⟨gc,2,none⟩=some (O U y.gt):=((xj.room (bp.lies 8 gc 42 [F TA y.t.length tc,F OA y.o.length oc,O U y.gt,O U y.sd,O U y.ms,xh l.D,xh l.P,O U l.n]) sP).2 (xl.open_ 8 kZ)).cell 2
     have q3:w9.cell? ⟨gc,3,none⟩=some (O U y.sd):=((xj.room (bp.lies 8 gc 42 [F TA y.t.length tc,F OA y.o.length oc,O U y.gt,O U y.sd,O U y.ms,xh l.D,xh l.P,O U l.n]) sP).2 (xl.open_ 8 kZ)).cell 3
     have q4:w9.cell? ⟨gc,4,none⟩=some (O U y.ms):=((xj.room (bp.lies 8 gc 42 [F TA y.t.length tc,F OA y.o.length oc,O U y.gt,O U y.sd,O U y.ms,xh l.D,xh l.P,O U l.n]) sP).2 (xl.open_ 8 kZ)).cell 4
     have q5:w9.cell? ⟨gc,5,none⟩=some (xh l.D):=((xj.room (bp.lies 8 gc 42 [F TA y.t.length tc,F OA y.o.length oc,O U y.gt,O U y.sd,O U y.ms,xh l.D,xh l.P,O U l.n]) sP).2 (xl.open_ 8 kZ)).cell 5
     have q6:w9.cell? ⟨gc,6,none⟩=some (xh l.P):=((xj.room (bp.lies 8 gc 42 [F TA y.t.length tc,F OA y.o.length oc,O U y.gt,O U y.sd,O U y.ms,xh l.D,xh l.P,O U l.n]) sP).2 (xl.open_ 8 kZ)).cell 6
     have q7:w9.cell? ⟨gc,7,none⟩=some (O U l.n):=((xj.room (bp.lies 8 gc 42 [F TA y.t.length tc,F OA y.o.length oc,O U y.gt,O U y.sd,O U y.ms,xh l.D,xh l.P,O U l.n]) sP).2 (xl.open_ 8 kZ)).cell 7
     simp only [Act.put,sA,gs0,gs1] at xk
     go_simp
     exact xk _ _ rfl (dS xl xj) gR
    refine sm0 [] (fun v _=>∃ t:ByteArray,v=xh t∧t.size≤500) (fun vs L9 w9 xl xj hB K9 xk=>?_) ?_
    next =>
     have d1:=fe hB 1
     have d2:=fe hB 2
     simp only [d1,d2] at xk ⊢
     simp only [Act.put,sA,gs0,gs1] at xk
     go_simp
     refine (gW (y.at TA tc OA oc) l Bf.out g A bs cap _ w w9 (by have:=xj.cnt; omega) Fm KM xj.env ⟨an (xj.owns hT Av.out),an (xj.owns hO Dn.out)⟩ (fun b e=>by have:=hQ hT b e; omega) (fun b e=>by have:=hQ hO b e; omega)).mono ?_
     rintro en w8 ⟨t8,rfl,Cb,yN,xP⟩
     exact xk _ _ _ rfl ⟨t8,rfl,Cb⟩ (xj.call xl.self dD yN oM xP sP) (fun _=>xP)
    refine sm [8] (fun v w9=>∃ (u:Value) (z:Oc) (q:Lg) (T:ByteArray),v=.tuple #[u,xh T]∧gX w9 W.heap.size z q u∧mL z q=true) (fun vs L9 w9 xl xj hB K9 xk=>?_) ?_
    next =>
     have d0:=fe hB 0
     simp only [d0] at xk ⊢
     simp only [Act.put,sA,gs0,gs1] at xk
     obtain ⟨t3,e3,ez3⟩:=fs hB 3
     simp only [e3] at xk ⊢
     go_simp
     have hwS:W.heap.size≤w9.heap.size:=jT EH xj.size
     have FV:mL (fD (y.at TA tc OA oc) l t3) (fH (y.at TA tc OA oc) l t3)=true:=by rw [nJ,nK]; exact ma t3 xF.out
     refine (ls (y.at TA tc OA oc) l t3 w9 ⟨an (xj.owns hT Av.out),an (xj.owns hO Dn.out)⟩ (by show y.t.length≤_; omega) (by show y.o.length≤_; omega) oM oM).mono ?_
     rintro en w8 ⟨v8,rfl,Bs,xm⟩
     exact xk _ _ _ rfl ⟨v8,_,_,_,rfl,Bs.lower hwS,FV⟩ (xj.below xl.self dD xm) (fun _=>bJ xm _)
    refine pm0 [] 4 (fun u v _=>v=u∧∃ q T,u=.tuple #[q,xh T]) (fun vs L9 w9 xl xj hB K9 xk=>?_) ?_
    next =>
     obtain ⟨u5,_,_,T5,e5,_⟩:=fs hB 4
     simp only [e5] at xk ⊢
     go_simp
     exact xk _ _ _ rfl ⟨rfl,u5,T5,rfl⟩ (dS xl xj) gR
    refine sm [8] (fun v w9=>∃ (z:Oc) (q:Lg),gX w9 W.heap.size z q v∧mL z q=true) (fun vs L9 w9 xl xj hB K9 xk=>?_) ?_
    next =>
     simp only [Act.put,sA,gs0,gs1] at xk
     obtain ⟨q5,_⟩:=fs hB 5
     obtain ⟨u4,z4,l4,T4,e4,h4,h4g⟩:=fs hB 4
     simp only [q5,e4] at xk ⊢
     go_simp
     exact xk _ _ _ rfl ⟨z4,l4,h4,h4g⟩ (dS xl xj) gR
    refine sm0 [] (fun v _=>∃ T:ByteArray,v=xh T) (fun vs L9 w9 xl xj hB K9 xk=>?_) ?_
    next =>
     simp only [Act.put,sA,gs0,gs1] at xk
     obtain ⟨q5,u4,T4,e4⟩:=fs hB 5
     simp only [q5,e4] at xk ⊢
     go_simp
     exact xk _ _ _ rfl ⟨_,rfl⟩ (dS xl xj) gR
    refine sm [] (fun _ w9=>∃ (z:Oc) (q:Lg),cn w9 W.heap.size gc z q∧mL z q=true) (fun vs L9 w9 xl xj hB K9 xk=>?_) ?_
    next =>
     simp only [Act.put] at xk
     obtain ⟨z,q,⟨TB,tb,OB,ob,e6,h1,h2⟩,FW⟩:=fs hB 6
     have xS:ai w9 gc 42 [F TA y.t.length tc,F OA y.o.length oc,O U y.gt,O U y.sd,O U y.ms,xh l.D,xh l.P,O U l.n]:=(xj.room (bp.lies 8 gc 42 [F TA y.t.length tc,F OA y.o.length oc,O U y.gt,O U y.sd,O U y.ms,xh l.D,xh l.P,O U l.n]) sP).2 xl.self
     simp only [e6] at xk ⊢
     obtain ⟨x0,x1,x2,x3,x4,x5,x6,x7⟩:=cells8 xS
     obtain ⟨f0,f1,f2,f3,f4,f5,f6,f7⟩:=frz8 xS
     have Fo:=jZ (cn.put (l:=q) xS h1 h2)
     have yO:=jZ (gw8 w9 gc (F TB z.t.length tb) (F OB z.o.length ob) (O U z.gt) (O U z.sd) (O U z.ms) (xh q.D) (xh q.P) (O U q.n))
     clear h1 h2 xS
     go_simp
     exact xk _ undef _ rfl ⟨z,q,Fo.out,FW⟩ (xj.wrote xl.self dD yO.out (fun b e=>by injection e with e; subst e; exact ⟨oM,oM,.inl sP⟩) (by intro p hp e; simp only [List.mem_singleton] at hp; subst hp; exact .inl rfl)) nq
    refine au fun vs Lq W5 xv yu hB=>?_
    obtain ⟨z,q,Im,In⟩:=hB 8 _ rfl rfl dD
    clear hB xv
    have GX:Hid (CQ w W W5 g A bs cap (m+100100+2100 * (7 - (k - 1))) gc z q):=⟨yu.le.mono oM,yu.lies St.out (by simp only [mC,mN,oF]; omega),Im,dK St.gr yu (by intro k hk xw; simp only [mC,mN,oF] at hk; omega) St.env,l1,hgB,hwW⟩
    have NE:=jZ (tj In)
    have Bm:IntKind.i64.wrap ((k:Int) - 1)=(k:Int) - 1:=IntWalk.i64_in _ oM
    have AA:((k:Int) - 1)=((k - 1:Nat):Int):=oM
    have CP:=jZ AA
    clear AA Im In yu St hT hO K3 Av Dn Ac xF BN
    go_wp2
    go_roundw
    case rel=>exact ⟨k - 1,z,q,oM,by rw [CP.out],NE,GX⟩
    case measure=>simp [intOf]; omega
   ·have zK:k=0:=oM
    subst zK
    have hlt' : ¬ (0:Int) < ((0:Nat):Int):=oM
    go_wp2_with fail
    go_meet
    case rel=>exact ⟨y,l,BN.out,HQ.out.mono oM⟩
 case rest =>
  clear HQ BN
  obtain ⟨y2,l,yD,Q⟩:=hcut
  go_wp2_with fail
  refine (jC Q.env 24 oM oM).mono ?_
  rintro e W5 ⟨b,rfl,E5,gr⟩
  have Q5:=Q.next E5 gr
  clear Q E5 gr
  go_upto_if 27 with fail
  go_cut [] (fun wx=>∃ l2:Lg,CS y2 l2∧CQ w W wx g A bs cap (m+125000) gc y2 l2)
  case first =>
   cases b
   ·go_wp2_with fail
    go_meet
    case rel=>exact ⟨l,yD,Q5.mono oM⟩
   ·go_wp2_with fail
    refine (sI g A bs cap _ w W5 oM Q5.env).mono ?_
    rintro e W6 ⟨l2,rfl,⟨yZ, -⟩,E6,gr⟩
    have Q6:=Q5.next E6 gr
    clear Q5 E6 gr
    obtain ⟨TA2,tc2,OA2,oc2,K3,_,_⟩:=Q6.con
    obtain ⟨f0,f1,f2,f3,f4,f5,f6,f7⟩:=frz8 K3
    obtain ⟨c0,c1,c2,c3,c4,c5,c6,c7⟩:=cells8 K3
    have NF:=jZ ((Q6.setLog l2).mono (show _≤m+125000 by omega))
    clear K3 Q6
    go_wp2_with fail
    go_meet
    case rel=>exact ⟨l2,⟨yD.1,yD.2.1,yZ⟩,NF.out⟩
  case rest =>
   clear Q5 yD
   obtain ⟨l2,yD,Q⟩:=hcut
   obtain ⟨TA2,tc2,OA2,oc2,K3,hT,hO⟩:=Q.con
   have L2:=Q.out
   obtain ⟨k0,k1,k2,k3,k4,k5,k6,k7⟩:=cells8 K3
   obtain ⟨u0,u1,u2,u3,u4,u5,u6,u7⟩:=cells8 L2
   obtain ⟨f0,f1,f2,f3,f4,f5,f6,f7⟩:=frz8 L2
   obtain ⟨W9,xG⟩ : ∃ W9,((((((((wc.setCell ⟨W.heap.size,0,none⟩ (F TA2 y2.t.length tc2)).setCell ⟨W.heap.size,1,none⟩ (F OA2 y2.o.length oc2)).setCell ⟨W.heap.size,2,none⟩ (O U y2.gt)).setCell ⟨W.heap.size,3,none⟩ (O U y2.sd)).setCell ⟨W.heap.size,4,none⟩ (O U y2.ms)).setCell ⟨W.heap.size,5,none⟩ (xh l2.D)).setCell ⟨W.heap.size,6,none⟩ (xh l2.P)).setCell ⟨W.heap.size,7,none⟩ (O U l2.n))=W9:=⟨_,rfl⟩
   have LS:ai W9 W.heap.size 42 [F TA2 y2.t.length tc2,F OA2 y2.o.length oc2,O U y2.gt,O U y2.sd,O U y2.ms,xh l2.D,xh l2.P,O U l2.n]:=by rw [← xG]; exact ny L2 (F TA2 y2.t.length tc2) (F OA2 y2.o.length oc2) (O U y2.gt) (O U y2.sd) (O U y2.ms) (xh l2.D) (xh l2.P) (O U l2.n)
   have HT:W9.ownsRow W.heap.size 104 2 (F TA2 y2.t.length tc2) y2.t.length (y2.t.flatMap ar.enc):=by rw [← xG]; exact (dt (F TA2 y2.t.length tc2) (F OA2 y2.o.length oc2) (O U y2.gt) (O U y2.sd) (O U y2.ms) (xh l2.D) (xh l2.P) (O U l2.n) L2 hT hO).1
   have HO:W9.ownsRow W.heap.size 147 3 (F OA2 y2.o.length oc2) y2.o.length (y2.o.flatMap ae.enc):=by rw [← xG]; exact (dt (F TA2 y2.t.length tc2) (F OA2 y2.o.length oc2) (O U y2.gt) (O U y2.sd) (O U y2.ms) (xh l2.D) (xh l2.P) (O U l2.n) L2 hT hO).2
   have EE:fb w W9 g A bs cap (m+125000):=by rw [← xG]; exact Q.env.wrote (gw8 wc W.heap.size (F TA2 y2.t.length tc2) (F OA2 y2.o.length oc2) (O U y2.gt) (O U y2.sd) (O U y2.ms) (xh l2.D) (xh l2.P) (O U l2.n)) oM hgB
   have GG:W.grownBy W9 (some g):=by rw [← xG]; exact bf Q.gr (gw8 wc W.heap.size (F TA2 y2.t.length tc2) (F OA2 y2.o.length oc2) (O U y2.gt) (O U y2.sd) (O U y2.ms) (xh l2.D) (xh l2.P) (O U l2.n)) nR
   have KN:=jZ xG
   have BV:=jZ LS
   have Dp:=jZ HT
   have Dq:=jZ HO
   clear xG LS HT HO L2 K3 hT hO Q
   repeat (first | go_values | go_skip | go_guarded | go_step | go_upon | simp only [])
   rw [KN.out]
   have LS:=BV.out
   obtain ⟨x0,x1,x2,x3,x4,x5,x6,x7⟩:=cells8 LS
   refine bodyPost_ret (v:=.agg #[F TA2 y2.t.length tc2,F OA2 y2.o.length oc2,O U y2.gt,O U y2.sd,O U y2.ms,xh l2.D,xh l2.P,O U l2.n]) (by simp [results,Tryz.results61,go_sem,x0,x1,x2,x3,x4,x5,x6,x7]) rfl ?_
   exact ⟨y2,l2,_,rfl,⟨TA2,tc2,OA2,oc2,rfl,Dp.out,Dq.out⟩,yD,EE.mono oM,GG⟩
structure XS (w wx:World) (A:Option Addr) (bs:List UInt8) (cap m:Nat) (tt:TypeId) (co:List Value) (g5:Nat) (y:Oc) (l:Lg):Prop where
 env:fb w wx (w.heap.size+1) A bs cap m
 out:ai wx w.heap.size tt co
 con:cn wx (w.heap.size+2) g5 y l
 gr:w.grownBy wx (some (w.heap.size+1))
 l5:w.heap.size+2≤g5
section
variable {w wx wy:World} {A:Option Addr} {bs:List UInt8} {cap m m' g5:Nat} {tt:TypeId} {co:List Value} {y:Oc} {l:Lg}
theorem XS.mono (h:XS w wx A bs cap m tt co g5 y l) (hm:m≤m'):XS w wx A bs cap m' tt co g5 y l:={ h with env:=h.env.mono hm }
theorem XS.next (h:XS w wx A bs cap m tt co g5 y l) (E:fb w wy (w.heap.size+1) A bs cap m') (hg:wx.grownBy wy (some (w.heap.size+1))):XS w wy A bs cap m' tt co g5 y l :=
 ⟨E,h.out.kept hg iE,h.con.grown hg oM (by have:=h.l5; omega),aA h.gr hg,h.l5⟩
theorem XS.below (h:XS w wx A bs cap m tt co g5 y l) (hb:Below wx.heap.size wx wy):XS w wy A bs cap m tt co g5 y l:=h.next (h.env.below hb) (bJ hb _)
theorem XS.alloc (h:XS w wx A bs cap m tt co g5 y l) (o:Obj):XS w (wx.alloc o) A bs cap m tt co g5 y l:=h.next (h.env.alloc o) (World.grownBy_alloc wx o _)
theorem XS.wrote {b:Nat} (h:XS w wx A bs cap m tt co g5 y l) (hg:wx.grownBy wy (some b)) (hb:g5 < b) (hf:∀ (k n:Nat) (v:Value) (e:TypeId) (xs:List Value),e=104 ∨ e=147→wx.ownsRow (w.heap.size+2) e k v n xs→v.ownBlock ≠ some b):XS w wy A bs cap m tt co g5 y l:=by
 obtain ⟨TA,tc,OA,oc,K,hT,hO⟩:=h.con
 exact ⟨h.env.wrote hg (by have:=h.l5; omega) (by have:=h.l5; omega),h.out.kept hg (by intro e; injection e; have:=h.l5; omega),⟨TA,tc,OA,oc,K.kept hg iE,hT.kept hg (.inr (hf _ _ _ _ _ (.inl rfl) hT)),hO.kept hg (.inr (hf _ _ _ _ _ (.inr rfl) hO))⟩,bf h.gr hg (by have:=h.l5; omega),h.l5⟩
theorem XS.setLog (h:XS w wx A bs cap m tt co g5 y l) (l2:Lg):XS w (((wx.setCell ⟨g5,5,none⟩ (xh l2.D)).setCell ⟨g5,6,none⟩ (xh l2.P)).setCell ⟨g5,7,none⟩ (O U l2.n)) A bs cap m tt co g5 y l2:=by
 obtain ⟨TA,tc,OA,oc,K,hT,hO⟩:=h.con
 have hg:=(ab (g:=g5) (i:=7) (u:=O U l2.n) (ab (g:=g5) (i:=6) (u:=xh l2.P) (ab (g:=g5) (i:=5) (u:=xh l2.D) (World.grownBy.refl wx (some g5)))))
 have h5:=h.l5
 exact ⟨h.env.wrote hg oM oM,h.out.kept hg iE,⟨TA,tc,OA,oc,((K.set 5 _).set 6 _).set 7 _,ak hT K eZ hg,ak hO K fa hg⟩,bf h.gr hg oM,h5⟩
end
set_option maxRecDepth 100000 in
theorem oQ (A:Option Addr) (cap:Nat) (bs:List UInt8) (w:World) (hr:gB w w.heap.size A bs) :
  Calls xi 31 #[F A bs.length cap] w fun e w'=>∃ (y:Oc) (l:Lg) (v:Value) (t:ByteArray),e=.returned (.tuple #[v,xh t])∧gX w' w.heap.size y l v∧CS y l∧t.size≤4000∧Below w.heap.size w w':=by
 have b1:Below w.heap.size w ((w.alloc (.cells #[F none 0 0,F none 0 0,O U 0,O U 0,O U 0,xh ⟨#[]⟩,xh ⟨#[]⟩,O U 0] 42)).alloc (.cells #[F A bs.length cap,O U 0,.int .u64 0] 92)):=((Below.refl w.heap.size w).alloc (by exact Nat.le_refl _) (.cells #[F none 0 0,F none 0 0,O U 0,O U 0,O U 0,xh ⟨#[]⟩,xh ⟨#[]⟩,O U 0] 42)).alloc sP (.cells #[F A bs.length cap,O U 0,.int .u64 0] 92)
 have Lc:=ai.newB w (.cells #[F none 0 0,F none 0 0,O U 0,O U 0,O U 0,xh ⟨#[]⟩,xh ⟨#[]⟩,O U 0] 42) 92 #[F A bs.length cap,O U 0,.int .u64 0]
 have L2:=(ai.new w 42 #[F none 0 0,F none 0 0,O U 0,O U 0,O U 0,xh ⟨#[]⟩,xh ⟨#[]⟩,O U 0]).alloc (.cells #[F A bs.length cap,O U 0,.int .u64 0] 92)
 go_enter Tryz.func31,Tryz.ntmps31
 go_wp2_with fail
 generalize ((w.alloc (.cells #[F none 0 0,F none 0 0,O U 0,O U 0,O U 0,xh ⟨#[]⟩,xh ⟨#[]⟩,O U 0] 42)).alloc (.cells #[F A bs.length cap,O U 0,.int .u64 0] 92))=W1 at b1 Lc L2 ⊢
 have E1:fb w W1 (w.heap.size+1) A bs cap 0:=⟨⟨0,0,Lc,Nat.le_refl _,oM,oM⟩,(bi.below hr b1).mono oM,bJ b1 _⟩
 have AB:=Lc.lt
 have G1:=bJ b1 (some (w.heap.size+1))
 clear hr Lc b1
 refine (nl (w.heap.size+1) A bs cap 0 w W1 oM E1).mono ?_
 rintro e W2 ⟨y,l,v,rfl,⟨TA,tc,OA,oc,rfl,hT,hO⟩,yD,E2,gr⟩
 have S:XS w (W2.alloc (.cells #[F TA y.t.length tc,F OA y.o.length oc,O U y.gt,O U y.sd,O U y.ms,xh l.D,xh l.P,O U l.n] 42)) A bs cap 130000 42 [F none 0 0,F none 0 0,O U 0,O U 0,O U 0,xh ⟨#[]⟩,xh ⟨#[]⟩,O U 0] W2.heap.size y l:=⟨(E2.alloc _).mono oM,(L2.kept gr iE).alloc _,⟨TA,tc,OA,oc,ai.new W2 _ _,(ag hT oM).alloc _,(ag hO oM).alloc _⟩,cr (aA G1 gr) _,by have:=gr.size; omega⟩
 have BN:=jZ yD
 clear yD hT hO E1 E2 L2 G1 gr
 go_upto_region 3 with fail
 generalize (W2.alloc (.cells #[F TA y.t.length tc,F OA y.o.length oc,O U y.gt,O U y.sd,O U y.ms,xh l.D,xh l.P,O U l.n] 42))=W3 at S ⊢
 have h5:=S.l5
 generalize W2.heap.size=g5 at S h5 ⊢
 clear AB
 obtain ⟨TA,tc,OA,oc,K5,hT,hO⟩:=S.con
 obtain ⟨c0,c1,c2,c3,c4,c5,c6,c7⟩:=cells8 K5
 go_wp2_with fail
 refine (gW (y.at TA tc OA oc) l (show wR (y.at TA tc OA oc) from BN.out.1) (w.heap.size+1) A bs cap _ w W3 oM (by have:=BN.out.2.1.1; show y.t.length≤_; omega) (by have:=BN.out.2.1.2; show y.o.length≤_; omega) S.env ⟨an hT,an hO⟩ (fun b e=>by have:=hQ hT b e; omega) (fun b e=>by have:=hQ hO b e; omega)).mono ?_
 rintro e W6 ⟨t,rfl,ht,E,gr⟩
 have S6:=S.next E gr
 clear S E gr K5 hT hO c0 c1 c2 c3 c4 c5 c6 c7
 go_wp2_with fail
 refine (dp S6.env 5 oM oM).mono ?_
 rintro e W7 ⟨n,rfl,hn,E7,gr⟩
 have HS:=jZ (S6.next E7 gr)
 clear S6 E7 gr
 go_wp2_with fail
 go_loopw [6,7] (fun s6 i wr=>∃ (k:Nat) (t:ByteArray),k≤4∧s6=xh t∧i=O U k∧t.size≤501 * (5 - k)∧Hid (XS w wr A bs cap (140000+300 * (5 - k)) 42 [F none 0 0,F none 0 0,O U 0,O U 0,O U 0,xh ⟨#[]⟩,xh ⟨#[]⟩,O U 0] g5 y l)) (fun _ i _=>(intOf i).toNat)
 case atStart=>exact ⟨n,t,oM,rfl,rfl,oM,HS.out.mono oM⟩
 case round =>
  clear HS hn ht
  obtain ⟨k,t,hk,rfl,rfl,ht,HS⟩:=hrel
  by_cases xu:0 < k
  ·have hlt' : (0:Int) < (k:Int):=oM
   have Bm:IntKind.i64.wrap ((k:Int) - 1)=(k:Int) - 1:=IntWalk.i64_in _ oM
   have AA:((k:Int) - 1)=((k - 1:Nat):Int):=oM
   have CP:=jZ AA
   clear AA
   have S:=HS.out
   clear HS
   have IF:(⟨#[10]⟩ : ByteArray).size=1:=rfl
   obtain ⟨TA,tc,OA,oc,K5,hT,hO⟩:=S.con
   obtain ⟨c0,c1,c2,c3,c4,c5,c6,c7⟩:=cells8 K5
   go_wp2_with fail
   refine (gW (y.at TA tc OA oc) l (show wR (y.at TA tc OA oc) from BN.out.1) (w.heap.size+1) A bs cap _ w wr oM (by have:=BN.out.2.1.1; show y.t.length≤_; omega) (by have:=BN.out.2.1.2; show y.o.length≤_; omega) S.env ⟨an hT,an hO⟩ (fun b e=>by have:=hQ hT b e; omega) (fun b e=>by have:=hQ hO b e; omega)).mono ?_
   rintro e W6 ⟨t2,rfl,DU,E,gr⟩
   have S6:=S.next E gr
   clear S E gr K5 hT hO c0 c1 c2 c3 c4 c5 c6 c7
   have HS:=jZ (S6.mono (show _≤140000+300 * (5 - (k - 1)) by omega))
   clear S6
   go_wp2
   go_roundw
   case rel=>exact ⟨k - 1,_,oM,rfl,by rw [CP.out],by simp only [bg]; omega,HS⟩
   case measure=>simp [intOf]; omega
  ·obtain rfl:k=0:=oM
   have S:=HS.out
   clear HS xu
   have y7 : ¬ (0:Int) < ((0:Nat):Int):=oM
   go_wp2_with fail
   refine (jC S.env 20 oM oM).mono ?_
   rintro e W8 ⟨q,rfl,E8,gr⟩
   have S8:=S.next E8 gr
   clear S E8 gr
   go_upto_if 30 with fail
   go_cut [6] (fun s6 wx=>∃ t:ByteArray,s6=xh t∧t.size≤4000∧XS w wx A bs cap 150000 42 [F none 0 0,F none 0 0,O U 0,O U 0,O U 0,xh ⟨#[]⟩,xh ⟨#[]⟩,O U 0] g5 y l)
   case first =>
    cases q
    ·go_wp2_with fail
     go_meet
     case rel=>exact ⟨t,rfl,oM,S8.mono oM⟩
    ·go_wp2_with fail
     refine (dp S8.env 2 oM oM).mono ?_
     rintro e W9 ⟨x,rfl,hx,E9,gr⟩
     have HS:=jZ (S8.next E9 gr)
     clear S8 E9 gr
     have Bm:IntKind.i64.wrap (29+(x:Int))=29+(x:Int):=IntWalk.i64_in _ oM
     go_wp2_with fail
     go_loopw [6,8] (fun s6 i wr=>∃ (k:Nat) (t:ByteArray),k≤30∧s6=xh t∧i=O U k∧t.size≤30 - k∧Hid (XS w wr A bs cap (140000+300 * (5 - 0)+2+2) 42 [F none 0 0,F none 0 0,O U 0,O U 0,O U 0,xh ⟨#[]⟩,xh ⟨#[]⟩,O U 0] g5 y l)) (fun _ i _=>(intOf i).toNat)
     case atStart=>exact ⟨29+x,⟨#[]⟩,oM,rfl,sP,by show 0≤_; omega,HS⟩
     case round =>
      clear HS hx Bm ht
      obtain ⟨k,t,hk,rfl,rfl,ht,HS⟩:=hrel
      by_cases xu:0 < k
      ·have hlt' : (0:Int) < (k:Int):=oM
       have Bm:IntKind.i64.wrap ((k:Int) - 1)=(k:Int) - 1:=IntWalk.i64_in _ oM
       have AA:((k:Int) - 1)=((k - 1:Nat):Int):=oM
       have CP:=jZ AA
       clear AA
       have IF:(⟨#[10]⟩ : ByteArray).size=1:=rfl
       go_wp2_with fail
       go_roundw
       case rel=>exact ⟨k - 1,_,oM,rfl,by rw [CP.out],by simp only [bg]; omega,HS⟩
       case measure=>simp [intOf]; omega
      ·obtain rfl:k=0:=oM
       clear xu
       have y7 : ¬ (0:Int) < ((0:Nat):Int):=oM
       go_wp2_with fail
       go_meet
       case rel=>exact ⟨t,rfl,oM,HS.out.mono oM⟩
   case rest =>
    clear S8 ht
    obtain ⟨t,rfl,ht,S⟩:=hcut
    obtain ⟨TA,tc,OA,oc,K5,hT,hO⟩:=S.con
    have L2:=S.out
    obtain ⟨c0,c1,c2,c3,c4,c5,c6,c7⟩:=cells8 K5
    obtain ⟨u0,u1,u2,u3,u4,u5,u6,u7⟩:=cells8 L2
    obtain ⟨f0,f1,f2,f3,f4,f5,f6,f7⟩:=frz8 L2
    obtain ⟨W9,xG⟩ : ∃ W9,((((((((wc.setCell ⟨w.heap.size,0,none⟩ (F TA y.t.length tc)).setCell ⟨w.heap.size,1,none⟩ (F OA y.o.length oc)).setCell ⟨w.heap.size,2,none⟩ (O U y.gt)).setCell ⟨w.heap.size,3,none⟩ (O U y.sd)).setCell ⟨w.heap.size,4,none⟩ (O U y.ms)).setCell ⟨w.heap.size,5,none⟩ (xh l.D)).setCell ⟨w.heap.size,6,none⟩ (xh l.P)).setCell ⟨w.heap.size,7,none⟩ (O U l.n))=W9:=⟨_,rfl⟩
    have LS:ai W9 w.heap.size 42 [F TA y.t.length tc,F OA y.o.length oc,O U y.gt,O U y.sd,O U y.ms,xh l.D,xh l.P,O U l.n]:=by rw [← xG]; exact ny L2 (F TA y.t.length tc) (F OA y.o.length oc) (O U y.gt) (O U y.sd) (O U y.ms) (xh l.D) (xh l.P) (O U l.n)
    have HT:W9.ownsRow w.heap.size 104 2 (F TA y.t.length tc) y.t.length (y.t.flatMap ar.enc):=by rw [← xG]; exact (dt (F TA y.t.length tc) (F OA y.o.length oc) (O U y.gt) (O U y.sd) (O U y.ms) (xh l.D) (xh l.P) (O U l.n) L2 (ag hT oM) (ag hO oM)).1
    have HO:W9.ownsRow w.heap.size 147 3 (F OA y.o.length oc) y.o.length (y.o.flatMap ae.enc):=by rw [← xG]; exact (dt (F TA y.t.length tc) (F OA y.o.length oc) (O U y.gt) (O U y.sd) (O U y.ms) (xh l.D) (xh l.P) (O U l.n) L2 (ag hT oM) (ag hO oM)).2
    have BB:Below w.heap.size w W9:=by rw [← xG]; exact gw (bf S.gr (gw8 wc w.heap.size (F TA y.t.length tc) (F OA y.o.length oc) (O U y.gt) (O U y.sd) (O U y.ms) (xh l.D) (xh l.P) (O U l.n)) nR) oM
    have KN:=jZ xG
    have BV:=jZ LS
    have Dp:=jZ HT
    have Dq:=jZ HO
    have FP:=jZ BB
    clear xG LS HT HO BB L2 K5 hT hO S
    repeat (first | go_values | go_skip | go_guarded | go_step | go_upon | simp only [])
    rw [KN.out]
    have LS:=BV.out
    obtain ⟨x0,x1,x2,x3,x4,x5,x6,x7⟩:=cells8 LS
    refine bodyPost_ret (v:=.tuple #[.agg #[F TA y.t.length tc,F OA y.o.length oc,O U y.gt,O U y.sd,O U y.ms,xh l.D,xh l.P,O U l.n],xh t]) (by simp [results,Tryz.results31,go_sem,x0,x1,x2,x3,x4,x5,x6,x7]) rfl ?_
    exact ⟨y,l,_,t,rfl,⟨TA,tc,OA,oc,rfl,Dp.out,Dq.out⟩,BN.out,oM,FP.out⟩
def jz (w:World) (B:Nat) (A:Option Addr) (m:List dj):Prop:=bi w B 2 A m.length (m.flatMap dj.enc)
theorem jz.of {w:World} {B c:Nat} {A:Option Addr} {m:List dj} (h:w.ownsRow B 62 2 (F A m.length c) m.length (m.flatMap dj.enc)):jz w w.heap.size A m:=(cq.of h).reads
theorem jz.then {w w' : World} {A:Option Addr} {m:List dj} (h:jz w w.heap.size A m) (hb:Below w.heap.size w w'):jz w' w'.heap.size A m:=bi.then h hb
theorem jz.cells {w:World} {B:Nat} {A:Option Addr} {m:List dj} (h:jz w B A m) (xw:0 < m.length):∃ b off,A=some ⟨b,off,none⟩∧b < B∧∀ i (hi:i < m.length) (p:aq B w),
  p.val.cell? ⟨b,off+i * 2,none⟩=some (xh m[i].c)∧p.val.cell? ⟨b,off+i * 2+1,none⟩=some (xh m[i].r):=by
 obtain ⟨b,off,e,hb,hc⟩:=bi.at_ h xw
 refine ⟨b,off,e,hb,fun i hi p=>?_⟩
 have key:∀ j,j < 2→∀ u,(m[i].enc)[j]?=some u→p.val.cell? ⟨b,off+i * 2+j,none⟩=some u:=fun j hj u hu=>by
  rw [p.cell hb,Nat.add_assoc]
  exact hc _ u (by rw [fm dj.enc 2 dj.enc_len m i hi j hj]; exact hu)
 exact ⟨key 0 oM _ rfl,key 1 oM _ rfl⟩
noncomputable def eF (l:Lg):List ((List UInt8 × List UInt8) × Nat):=if l.ok then aF 60 0 (bl l.D++bl l.P) else []
def pN (l:Lg) (w:World) (e:Ending) (w' : World):Prop:=∃ A c m,e=.returned (.tuple #[F A (List.length m) c,.bool l.ok])∧dV (eF l) m∧w'.ownsRow w.heap.size 62 2 (F A m.length c) m.length (m.flatMap dj.enc)∧Below w.heap.size w w'
theorem mO {l:List ((List UInt8 × List UInt8) × Nat)} {m m' : List dj} (h:dV l m) (h' : dV l m'):m=m':=by
 unfold dV at h h'
 have e:m.map (fun r=>(bl r.c,bl r.r))=m'.map (fun r=>(bl r.c,bl r.r)):=h.trans h'.symm
 clear h h'
 induction m generalizing m' with
 | nil=>cases m' with
  | nil=>rfl
  | cons y m'=>simp at e
 | cons x m ih=>cases m' with
  | nil=>simp at e
  | cons y m' =>
   simp only [List.map_cons,List.cons.injEq,Prod.mk.injEq] at e
   obtain ⟨⟨e1,e2⟩,e3⟩:=e
   obtain ⟨xc,xr⟩:=x
   obtain ⟨yc,yr⟩:=y
   rw [show xc=yc from dU e1,show xr=yr from dU e2,ih e3]
theorem pO (l:Lg) {m:List dj} (h:dV (eF l) m):m.length≤60:=by
 rw [gH h]; unfold eF
 split
 ·exact cW 60 0 _
 ·simp
set_option maxRecDepth 100000 in
theorem lw (l:Lg) (w:World) (hs:l.D.size+l.P.size≤2000000) :
  Calls xi 41 #[l.val] w (pN l w):=by
 have b1:=bZ w (.cells #[xh l.D,xh l.P,O U l.n] 27)
 have L1:=ai.new w 27 #[xh l.D,xh l.P,O U l.n]
 have hz:(l.D++l.P).size=l.D.size+l.P.size:=bg _ _
 have zM:bl (l.D++l.P)=bl l.D++bl l.P:=dw _ _
 go_enter Tryz.func41,Tryz.ntmps41
 go_wp2_with fail
 generalize w.alloc (.cells #[xh l.D,xh l.P,O U l.n] 27)=W at b1 L1 ⊢
 generalize hg:w.heap.size=g at L1 ⊢
 refine (iD l _ hs).mono ?_
 rintro e w2 ⟨rfl,xn⟩
 have L2:=L1.below xn L1.lt
 obtain ⟨c0,c1,c2⟩:=cells3 L2
 have yp:Below w.heap.size w w2:=by rw [← hg] at *; exact av b1 xn
 cases xq:l.ok
 ·have HK:=jZ xq
  clear xq zM L1 L2
  have xB:=yp.alloc yp.size (.cells #[] 62)
  have hO:(w2.alloc (.cells #[] 62)).ownsRow w.heap.size 62 2 (F (some ⟨w2.heap.size,0,none⟩) 0 0) 0 (([] : List dj).flatMap dj.enc):=dI (ai.new w2 62 #[]) yp.size
  have HO:=jZ hO
  clear hO
  go_wp2_with fail
  go_ret2
  exact ⟨_,_,[],by rw [HK.out]; rfl,by unfold eF; rw [HK.out]; rfl,HO.out,xB⟩
 ·have HK:=jZ xq
  have NG:l.D.size+l.P.size≤30000:=by
   have h9:=fl (ce.1 xq).1
   rwa [ao,ao] at h9
  have HO:Hid (∀ W,Calls xi 77 #[xh (l.D++l.P)] W (iq (l.D++l.P) W)):=fun W=>kr (l.D++l.P) W oM
  have HB:=jZ zM
  clear xq zM L1 L2
  go_wp2_with fail
  refine (HO.out _).mono ?_
  rintro e w3 ⟨A,c,m,rfl,hm,hO,xB⟩
  go_wp2_with fail
  go_ret2
  exact ⟨A,c,m,by rw [HK.out]; rfl,by unfold eF; rw [HK.out,if_pos rfl,← HB.out]; exact hm,ag hO (yp.size),yp.trans (xB.mono yp.size)⟩
set_option maxRecDepth 100000 in
theorem ly (l:Lg) (w:World) (hs:l.D.size+l.P.size≤2000000) (ht:jj w) :
  Calls xi 30 #[l.val] w (pN l w):=by
 have b1:=bZ w (.cells #[xh l.D,xh l.P,O U l.n] 27)
 have L1:=ai.new w 27 #[xh l.D,xh l.P,O U l.n]
 have yG:=ht.then b1
 have hz:(l.D++l.P).size=l.D.size+l.P.size:=bg _ _
 have zM:bl (l.D++l.P)=bl l.D++bl l.P:=dw _ _
 go_enter Tryz.func30,Tryz.ntmps30
 go_wp2_with fail
 generalize w.alloc (.cells #[xh l.D,xh l.P,O U l.n] 27)=W at yG b1 L1 ⊢
 generalize hg:w.heap.size=g at L1 ⊢
 refine (ju l _ hs yG).mono ?_
 rintro e w2 ⟨rfl,xn⟩
 have L2:=L1.below xn L1.lt
 obtain ⟨c0,c1,c2⟩:=cells3 L2
 have yp:Below w.heap.size w w2:=by rw [← hg] at *; exact av b1 xn
 cases xq:l.ok
 ·have HK:=jZ xq
  clear xq zM L1 L2
  go_wp2_with fail
  go_ret2
  exact ⟨none,0,[],by rw [HK.out]; rfl,by unfold eF; rw [HK.out]; rfl,World.ownsRow_nil _ _ _ _,yp⟩
 ·have HK:=jZ xq
  have NG:l.D.size+l.P.size≤30000:=by
   have h9:=fl (ce.1 xq).1
   rwa [ao,ao] at h9
  have HO:Hid (∀ W,jj W→Calls xi 68 #[xh (l.D++l.P)] W (jt (l.D++l.P) W)):=fun W hW=>hU (l.D++l.P) W oM hW
  have HB:=jZ zM
  clear xq zM L1 L2
  go_wp2_with fail
  refine (HO.out _ (ht.then yp)).mono ?_
  rintro e w3 ⟨A,c,A8,c8,m,rfl,hm,hO,_,xB⟩
  go_wp2_with fail
  go_ret2
  exact ⟨A,c,m,by rw [HK.out]; rfl,by unfold eF; rw [HK.out,if_pos rfl,← HB.out]; exact hm,ag hO (yp.size),yp.trans (xB.mono yp.size)⟩
def Lg.zero:Lg:=⟨⟨#[]⟩,⟨#[]⟩,0⟩
noncomputable def gZ (l:Lg):List dj:=(eF l).map fun e=>⟨⟨e.1.1.toArray⟩,⟨e.1.2.toArray⟩⟩
theorem iO (l:Lg):dV (eF l) (gZ l):=by
 unfold dV gZ
 rw [List.map_map]
 exact List.map_congr_left fun e _=>rfl
theorem rT {l:Lg} {m:List dj} (h:dV (eF l) m):m=gZ l:=mO h (iO l)
noncomputable def dX:List dj→Oc→Lg→Nat→Nat
 | [],_,_,i=>i
 | e :: es,y,l,i=>if mf y l e.c=e.r then dX es (pL y l e.c) (nA y l e.c) (i+1) else i
theorem oT {m:List dj} {k:Nat} (h:k < m.length) {y:Oc} {l:Lg} {i:Nat} (hT:mf y l m[k].c=m[k].r):dX (m.drop k) y l i=dX (m.drop (k+1)) (pL y l m[k].c) (nA y l m[k].c) (i+1):=by
 rw [List.drop_eq_getElem_cons h,dX,if_pos hT]
theorem pP {m:List dj} {k:Nat} (h:k < m.length) {y:Oc} {l:Lg} {i:Nat} (hT:mf y l m[k].c ≠ m[k].r):dX (m.drop k) y l i=i:=by
 rw [List.drop_eq_getElem_cons h,dX,if_neg hT]
noncomputable def ib (n:Int) (l:Lg):Bool:=bX n 1 9999 && l.ok
noncomputable def mc (n:Int) (l:Lg):Nat:=if ib n l then dX (gZ l) (eU n) Lg.zero 0 else 0
theorem me {n:Int} (h:bX n 1 9999=true):mL (eU n) Lg.zero=true:=by
 have h0:Oc.zero.good=true:=dD
 refine im.2 ⟨?_, ?_⟩
 ·have h1:=pM n
  rw [if_pos h] at h1
  have h2:=(fL h1).1
  unfold eU
  rw [if_pos h]; exact h2
 ·unfold Lg.ok Lg.zero
  rw [ce]
  have e:bl (⟨#[]⟩ : ByteArray) = []:=rfl
  simp only [e,List.append_nil]
  have e0:aF 60 0 [] = []:=by unfold aF; rw [if_neg sP]
  rw [e0]; simp [ck]
theorem oU:∀ (n k:Nat) (s:List UInt8),∀ a ∈ aF n k s,eX a.1.1 a.1.2=true
 | 0,_,_,a,h=>by simp [aF] at h
 | n+1,k,s,a,h=>by
  unfold aF at h
  split at h
  ·cases hd:dZ k (cJ 10 s) with
   | none=>rw [hd] at h; cases h
   | some e =>
    rw [hd] at h
    rcases List.mem_cons.1 h with rfl | h
    ·exact (oi hd).1
    ·exact oU n (k+1) _ a h
  ·cases h
theorem oV (l:Lg):∀ e ∈ gZ l,e.c.size≤1048576:=by
 intro e he
 unfold gZ at he
 obtain ⟨a,ha,rfl⟩:=List.mem_map.1 he
 unfold eF at ha
 split at ha
 ·have h2:=(dd.1 (oU _ _ _ a ha)).2.1
  show a.1.1.toArray.size≤_
  rw [List.size_toArray]; omega
 ·cases ha
theorem nM {b:UInt8} {s:List UInt8} (h:b ∈ s) (x:List UInt8):cJ b (s++x)=cJ b s:=by
 rw (occs:=[1]) [db h]
 rw [List.append_assoc,List.cons_append]; exact ez (fK b s)
theorem tn {b:UInt8} {s:List UInt8} (h:b ∈ s):(cJ b s).length+1≤s.length:=by
 have:=congrArg List.length (db h); simp at this; omega
theorem vT {l l' : List ((List UInt8 × List UInt8) × Nat)} (h:l <+: l'):ck l≤ck l':=by
 obtain ⟨t,rfl⟩:=h
 unfold ck; rw [List.map_append,List.sum_append]; omega
theorem oW:∀ (n k:Nat) (s x:List UInt8),aF n k s <+: aF n k (s++x)
 | 0,_,_,_=>by simp [aF]
 | n+1,k,s,x=>by
  by_cases h1:(10:UInt8) ∈ s
  ·cases h2:dZ k (cJ 10 s) with
   | none=>rw [dH h2]; exact List.nil_prefix
   | some e =>
    rw [cl h1 h2,cl (s:=s++x) (by simp [h1]) (by rw [nM h1]; exact h2),nM h1,List.drop_append_of_le_length (tn h1)]
    exact (List.cons_prefix_cons).2 ⟨rfl,oW n (k+1) _ x⟩
  ·rw [dB h1]; exact List.nil_prefix
theorem mP {x:List UInt8} (hx:(10:UInt8) ∉ x):∀ (n k:Nat) (s:List UInt8) (j:Nat),aF n k (s.take j++x) <+: aF n k s
 | 0,_,_,_=>by simp [aF]
 | n+1,k,s,j=>by
  by_cases h1:(10:UInt8) ∈ s.take j
  ·have e1:cJ 10 (s.take j++x)=cJ 10 (s.take j):=nM h1 x
   have e2:cJ 10 s=cJ 10 (s.take j):=by have:=nM h1 (s.drop j); rwa [List.take_append_drop] at this
   have hl:=tn h1
   cases h2:dZ k (cJ 10 (s.take j)) with
   | none=>rw [dH (s:=s.take j++x) (by rw [e1]; exact h2)]; exact List.nil_prefix
   | some e =>
    rw [cl (s:=s.take j++x) (by simp [h1]) (by rw [e1]; exact h2),cl (s:=s) (List.mem_of_mem_take h1) (by rw [e2]; exact h2),e1,e2,List.drop_append_of_le_length hl,List.drop_take]
    exact (List.cons_prefix_cons).2 ⟨rfl,mP hx n (k+1) _ _⟩
  ·rw [dB (s:=s.take j++x) (by simp only [List.mem_append,not_or]; exact ⟨h1,hx⟩)]; exact List.nil_prefix
theorem lz:∀ (n k:Nat) (s:List UInt8),aF n k (s.take (ck (aF n k s)))=aF n k s
 | 0,_,_=>by simp [aF]
 | n+1,k,s=>by
  by_cases h1:(10:UInt8) ∈ s
  ·cases h2:dZ k (cJ 10 s) with
   | none=>rw [dH h2]; simp only [ck,List.map_nil,List.sum_nil,List.take_zero]; exact dB sP
   | some e =>
    have ih:=lz n (k+1) (s.drop ((cJ 10 s).length+1))
    have ey:=cl (n:=n) h1 h2
    rw [ey,fT]
    simp only
    generalize ck (aF n (k+1) (s.drop ((cJ 10 s).length+1)))=L at ih ⊢
    have hp:=db h1
    have ht:s.take ((cJ 10 s).length+1+L)=cJ 10 s++10 :: (s.drop ((cJ 10 s).length+1)).take L:=by
     rw (occs:=[2]) [hp]
     generalize cJ 10 s=p
     generalize s.drop (p.length+1)=q
     rw [show p.length+1+L=p.length+(1+L) by omega,List.take_append,List.take_of_length_le oM,show p.length+(1+L) - p.length=L+1 by omega,List.take_succ_cons]
    have hb:cJ 10 (s.take ((cJ 10 s).length+1+L))=cJ 10 s:=by rw [ht]; exact ez (fK 10 s)
    have hm:(10:UInt8) ∈ s.take ((cJ 10 s).length+1+L):=by rw [ht]; simp
    rw [cl hm (by rw [hb]; exact h2),hb,ht]
    rw [show (cJ 10 s++10 :: (s.drop ((cJ 10 s).length+1)).take L).drop ((cJ 10 s).length+1)=(s.drop ((cJ 10 s).length+1)).take L by
     rw [List.drop_append,List.drop_eq_nil_of_le oM,show (cJ 10 s).length+1 - (cJ 10 s).length=1 by omega]; rfl]
    rw [ih]
  ·rw [dB h1]; simp only [ck,List.map_nil,List.sum_nil,List.take_zero]; exact dB sP
theorem nB (s:List UInt8):rr (s.take (ck (aF 60 0 s))) [] ((aF 60 0 s).length:Nat)=true:=by
 have hr:=fO 60 0 s
 rw [ce,List.append_nil,lz]
 refine ⟨?_, ?_,rfl⟩ <;> (simp only [List.length_take,List.length_nil]; omega)
theorem tp {k:Nat} {c r:List UInt8} (h:eX c r=true):∀ b ∈ eE (eS k c r),b.toNat≤126:=by
 obtain ⟨_,_,h1,_,h2,_⟩:=dd.1 h
 have pl:∀ {l:List UInt8},bD l=true→∀ b ∈ l,b.toNat≤126:=fun {l} hl b hb=>by
  have:=(List.all_eq_true.1 hl) b hb
  unfold iB at this
  simp only [Bool.and_eq_true,decide_eq_true_eq] at this
  exact this.1.2
 have it:∀ (n:Nat),∀ b ∈ Lib.itoa (n:Int),b.toNat≤126:=fun n b hb=>by
  rw [lQ] at hb
  have:=mr n b hb; omega
 intro b hb
 unfold eE eS at hb
 simp only [List.mem_append,mC,mN,oF] at hb
 rcases hb with ((((hb | rfl) | hb) | rfl) | hb) | (rfl | hb)
 ·exact it _ b hb
 ·decide
 ·exact pl h1 b hb
 ·decide
 ·exact pl h2 b hb
 ·decide
 ·exact it _ b hb
theorem np:∀ (n k:Nat) (s:List UInt8),ck (aF n k s)=s.length→∀ b ∈ s,b.toNat≤126
 | 0,k,s,h,b,hb=>by
  have:s = []:=List.eq_nil_of_length_eq_zero (by rw [← h]; simp [aF,ck])
  rw [this] at hb; cases hb
 | n+1,k,s,h,b,hb=>by
  by_cases h1:(10:UInt8) ∈ s
  ·cases h2:dZ k (cJ 10 s) with
   | none =>
    rw [dH h2] at h
    have:s = []:=List.eq_nil_of_length_eq_zero (by rw [← h]; simp [ck])
    rw [this] at hb; cases hb
   | some e =>
    rw [cl h1 h2,fT] at h
    simp only at h
    have hl:=tn h1
    have ih:=np n (k+1) (s.drop ((cJ 10 s).length+1)) (by rw [List.length_drop]; omega)
    rw [db h1] at hb
    simp only [List.mem_append,List.mem_cons] at hb
    obtain ⟨c,r⟩:=e
    have he:=oi h2
    rcases hb with hb | rfl | hb
    ·rw [← he.2] at hb; exact tp he.1 b hb
    ·decide
    ·exact ih b hb
  ·rw [dB h1] at h
   have:s = []:=List.eq_nil_of_length_eq_zero (by rw [← h]; simp [ck])
   rw [this] at hb; cases hb
def eN (s:ByteArray):Bool:=decide (s.size≤30000)
noncomputable def fQ (s:ByteArray):Nat:=if eN s then ck (aF 60 0 (bl s)) else 0
noncomputable def eI (s:ByteArray):Lg:=if eN s then ⟨s.extract 0 (ck (aF 60 0 (bl s))),⟨#[]⟩,((aF 60 0 (bl s)).length:Nat)⟩ else ⟨⟨#[]⟩,⟨#[]⟩,0⟩
set_option maxRecDepth 100000 in
theorem nC (s:ByteArray) (w:World) (hs:s.size≤2000000) (ht:jj w) :
  Calls xi 39 #[xh s] w fun e w'=>e=.returned (.tuple #[(eI s).val,O U (fQ s:Nat),.bool (eN s)])∧Below w.heap.size w w':=by
 have b1:=bZ w (.cells #[xh ⟨#[]⟩,xh ⟨#[]⟩,O U 0] 27)
 have L1:=ai.new w 27 #[xh ⟨#[]⟩,xh ⟨#[]⟩,O U 0]
 have yG:=ht.then b1
 by_cases Ae:30000 < s.size
 ·have HK:Hid (eN s=false):=jE oM
  have HG:Hid (eI s=⟨⟨#[]⟩,⟨#[]⟩,0⟩):=by unfold eI Hid; rw [HK.out]; rfl
  have HL:Hid (fQ s=0):=by unfold fQ Hid; rw [HK.out]; rfl
  have d0:decide (30000 < (s.size:Int))=true:=jD oM
  clear Ae
  go_enter Tryz.func39,Tryz.ntmps39
  go_wp2_with fail
  refine bodyPost_ret (v:=.tuple #[.agg #[xh ⟨#[]⟩,xh ⟨#[]⟩,O U 0],O U 0,.bool false]) (by simp [results,Tryz.results39,go_sem, *]) rfl ⟨by rw [HK.out,HG.out,HL.out]; rfl, ?_⟩
  repeat (first | exact Below.refl _ _ | refine Below.alloc ?_ (by simp; try omega) _ | refine Below.setCell ?_ (by simp; try omega) _)
 ·have HK:Hid (eN s=true):=jD oM
  have d0:decide (30000 < (s.size:Int))=false:=jE oM
  have HA:=jZ (fun W hW=>hU s W oM hW)
  have hroom:=fO 60 0 (bl s)
  have xt:=cW 60 0 (bl s)
  rw [ao] at hroom
  obtain ⟨k0,zK⟩ : ∃ k0,k0=(aF 60 0 (bl s)).length:=⟨_,rfl⟩
  obtain ⟨z,yT⟩ : ∃ z,z=ck (aF 60 0 (bl s)):=⟨_,rfl⟩
  have BX:Hid (∀ W,jj W→Calls xi 68 #[xh s] W fun e w'=>∃ A c A' c' k g,k=k0∧A'=some ⟨g,0,none⟩∧e=.returned (.tuple #[F A k c,F A' (k+1) c'])∧w'.cell? ⟨g,k,none⟩=some (O U (z:Nat))∧g < w'.heap.size∧W.heap.size≤g∧Below W.heap.size W w'):=fun W hW=>by
   refine (HA.out W hW).mono ?_
   rintro e w' ⟨A,c,A',c',m,rfl,hm,_,hO,hb⟩
   have DX:=gH hm
   obtain ⟨g,hA,h1,h2,hc⟩:=oy hO (by rw [ij,DX]) oM
   refine ⟨A,c,A',c',m.length,g,by rw [DX,zK],hA,rfl, ?_,h2,h1,hb⟩
   have h3:=hc m.length oM
   have h4:=lk 0 (aF 60 0 (bl s))
   rw [h3,DX,List.getD_eq_getElem?_getD,h4,yT,Nat.zero_add]
   rfl
  have HG:Hid (eI s=⟨s.extract 0 z,⟨#[]⟩,(k0:Nat)⟩):=by unfold eI Hid; rw [HK.out,if_pos rfl,zK,yT]
  have HL:Hid (fQ s=z):=by unfold fQ Hid; rw [HK.out,if_pos rfl,yT]
  rw [← yT] at hroom
  rw [← zK] at xt
  clear yT zK HA Ae
  have i1:(z:Int)≤(s.size:Int):=oM
  go_enter Tryz.func39,Tryz.ntmps39
  go_wp2_with fail
  generalize w.alloc (.cells #[xh ⟨#[]⟩,xh ⟨#[]⟩,O U 0] 27)=W at b1 L1 yG ⊢
  generalize hg:w.heap.size=g at L1 ⊢
  refine (BX.out _ yG).mono ?_
  rintro e w2 ⟨A,c,A',c',k,g',rfl,rfl,rfl,Ki,_,_,xn⟩
  have L2:=L1.below xn L1.lt
  have c0:=L2.cell 0
  have c1:=L2.cell 1
  have c2:=L2.cell 2
  obtain ⟨f0,f1,f2⟩:=frz3 L2
  have AB:=L2.lt
  simp only [gz0,gz1] at c0 c1 c2
  clear L1 L2
  go_wp2_with fail
  refine bodyPost_ret (v:=.tuple #[.agg #[xh (s.extract 0 z),xh ⟨#[]⟩,O U (k:Nat)],O U (z:Nat),.bool true]) (by simp [results,Tryz.results39,go_sem, *]) rfl ⟨by rw [HK.out,HG.out,HL.out], ?_⟩
  rw [← hg] at *
  exact (av b1 xn).trans (by repeat (first | exact Below.refl _ _ | refine Below.alloc ?_ (by simp; have:=b1.size; have:=xn.size; omega) _ | refine Below.setCell ?_ sP _))
theorem fA {s:ByteArray} (h:eN s=true):eI s=⟨s.extract 0 (ck (aF 60 0 (bl s))),⟨#[]⟩,((aF 60 0 (bl s)).length:Nat)⟩∧fQ s=ck (aF 60 0 (bl s)):=by
 unfold eI fQ; rw [h]; exact ⟨rfl,rfl⟩
theorem uf {s:ByteArray} (h:eN s=true):bl (eI s).D=(bl s).take (ck (aF 60 0 (bl s))):=by
 rw [(fA h).1]; simp only; rw [bH,List.drop_zero]
theorem tq {s:ByteArray} (h:eN s=true):(eI s).ok=true:=by
 unfold Lg.ok
 rw [uf h,(fA h).1]
 exact nB (bl s)
theorem rU (s:ByteArray):(eI s).D.size+(eI s).P.size≤s.size∧fQ s≤s.size:=by
 cases h:eN s with
 | false =>
  have e1:eI s=⟨⟨#[]⟩,⟨#[]⟩,0⟩:=by unfold eI; rw [h]; rfl
  have e2:fQ s=0:=by unfold fQ; rw [h]; rfl
  rw [e1,e2]
  exact ⟨Nat.zero_le _,Nat.zero_le _⟩
 | true =>
  have hr:=fO 60 0 (bl s)
  rw [ao] at hr
  rw [(fA h).1,(fA h).2]
  refine ⟨?_,hr⟩
  have h0:(⟨#[]⟩ : ByteArray).size=0:=rfl
  simp only [h0,ByteArray.size_extract]; omega
theorem lA {s:ByteArray} : eN s=true ↔ s.size≤30000:=by unfold eN; exact decide_eq_true_iff
theorem qB (l:List UInt8):(⟨l.toArray⟩ : ByteArray).size=l.length:=by simp [ByteArray.size]
theorem wv {l:Lg} {e:dj} (h:dY l e=0):(cm l e).ok=true∧(∃ n,eF (cm l e)=eF l++[((bl e.c,bl e.r),n)])∧(cm l e).n=((eF (cm l e)).length:Nat) ∧
  eN ((cm l e).D++(cm l e).P)=true∧fQ ((cm l e).D++(cm l e).P)=((cm l e).D++(cm l e).P).size∧iG (cm l e)=eI ((cm l e).D++(cm l e).P):=by
 cases xq:(l.ok && e.ok) with
 | false=>rw [(iF xq).2] at h; cases h
 | true =>
  by_cases hn:l.n=60
  ·rw [(fP xq hn).2] at h; cases h
  ·obtain ⟨e1, -⟩:=fV xq hn
   rw [Bool.and_eq_true] at xq
   obtain ⟨hl,hr⟩:=xq
   have hr:eX (bl e.c) (bl e.r)=true:=hr
   obtain ⟨q1,q2,q3⟩:=ce.1 hl
   have Ca:=cW 60 0 (bl l.D++bl l.P)
   have xt:(aF 60 0 (bl l.D++bl l.P)).length < 60:=oM
   have II:l.n.toNat=(aF 60 0 (bl l.D++bl l.P)).length:=oM
   have ha:=mK hr 60 0 (bl l.D++bl l.P) (by rw [q1,List.length_append]) xt
   rw [Nat.zero_add] at ha
   obtain ⟨lb,Cn⟩ : ∃ lb:ByteArray,lb=⟨(bT l.n.toNat (bl e.c) (bl e.r)).toArray⟩:=⟨_,rfl⟩
   rw [← Cn] at e1
   rw [e1]
   have zM:bl lb=bT (aF 60 0 (bl l.D++bl l.P)).length (bl e.c) (bl e.r):=by rw [Cn,bO (bT l.n.toNat (bl e.c) (bl e.r)),II]
   clear Cn
   have eP:bl (l.P++lb)=bl l.P++bT (aF 60 0 (bl l.D++bl l.P)).length (bl e.c) (bl e.r):=by rw [dw l.P lb,zM]
   generalize Bv:bT (aF 60 0 (bl l.D++bl l.P)).length (bl e.c) (bl e.r)=ln at ha eP zM
   have AM:aF 60 0 (bl l.D++bl (l.P++lb))=aF 60 0 (bl l.D++bl l.P)++[((bl e.c,bl e.r),ln.length)]:=by
    rw [eP,← List.append_assoc]; exact ha
   have hlens:ck (aF 60 0 (bl l.D++bl l.P)++[((bl e.c,bl e.r),ln.length)])=(bl l.D).length+((bl l.P).length+ln.length):=by
    have:ck (aF 60 0 (bl l.D++bl l.P)++[((bl e.c,bl e.r),ln.length)])=ck (aF 60 0 (bl l.D++bl l.P))+ln.length:=by simp [ck]
    omega
   have Io:Lg.ok ⟨l.D,l.P++lb,l.n+1⟩=true:=by
    unfold Lg.ok
    rw [ce]
    simp only
    rw [AM]
    refine ⟨by rw [hlens,eP,List.length_append],q2,by rw [List.length_append,List.length_singleton]; omega⟩
   have xY:=fl (D:=bl l.D) (P:=bl (l.P++lb)) (ce.1 Io).1
   have Dy:eN (l.D++(l.P++lb))=true:=lA.2 (by rw [bg l.D (l.P++lb),← ao l.D,← ao (l.P++lb)]; exact xY)
   have yf:ck (aF 60 0 (bl (l.D++(l.P++lb))))=(l.D++(l.P++lb)).size:=by
    rw [dw l.D (l.P++lb),(ce.1 Io).1,ao l.D,ao (l.P++lb),bg l.D (l.P++lb)]
   have Ik:eF l=aF 60 0 (bl l.D++bl l.P):=by unfold eF; rw [hl,if_pos rfl]
   have Mb:eF ⟨l.D,l.P++lb,l.n+1⟩=aF 60 0 (bl l.D++bl l.P)++[((bl e.c,bl e.r),ln.length)]:=by unfold eF; rw [Io,if_pos rfl]; exact AM
   refine ⟨Io,⟨ln.length,by rw [Mb,Ik]⟩,by rw [Mb,List.length_append,List.length_singleton]; simp only; omega,Dy,by rw [(fA Dy).2,yf], ?_⟩
   rw [(fA Dy).1,yf]
   unfold iG
   rw [Io,if_pos rfl]
   simp only
   congr 1
   ·refine vy ?_
    rw [bH,List.drop_zero,List.take_of_length_le (by rw [ao]; exact Nat.le_refl _)]
   ·rw [dw l.D (l.P++lb),AM,List.length_append,List.length_singleton]; omega
theorem uZ {l:Lg} (hl:l.ok=true) (k:Nat) (torn:Bool):aF 60 0 (bl l.D++gI (bl l.P) k torn) <+: aF 60 0 (bl l.D++bl l.P):=by
 obtain ⟨q1,q2,q3⟩:=ce.1 hl
 have ht:∀ j,bl l.D++(bl l.P).take j=(bl l.D++bl l.P).take ((bl l.D).length+j):=fun j=>by rw [List.take_length_add_append]
 unfold gI
 split
 ·rename_i h
  obtain ⟨_,hk⟩:=h
  by_cases xu:k≤(bl l.P).length
  ·have e:((bl l.P).take k).set (k - 1) (255 - ((bl l.P).take k).getD (k - 1) 0)=(bl l.P).take (k - 1)++[255 - ((bl l.P).take k).getD (k - 1) 0]:=by
    obtain ⟨j,rfl⟩ : ∃ j,k=j+1:=⟨k - 1,oM⟩
    simp only [Nat.add_sub_cancel]
    generalize 255 - ((bl l.P).take (j+1)).getD j 0=x
    rw [List.take_succ_eq_append_getElem oM,List.set_append,if_neg (by rw [List.length_take]; omega)]
    have:j - (List.take j (bl l.P)).length=0:=by rw [List.length_take]; omega
    rw [this]; rfl
   rw [e,← List.append_assoc,ht]
   refine mP ?_ 60 0 _ _
   have hb:(((bl l.P).take k).getD (k - 1) 0).toNat≤126:=by
    rw [eM (by rw [List.length_take]; omega),List.getElem_take]
    exact np 60 0 _ (by rw [q1,List.length_append]) _ (List.mem_append_right _ (List.getElem_mem _))
   rw [List.mem_singleton]
   intro e2
   have e3:=congrArg UInt8.toNat e2
   have e4:=tY (((bl l.P).take k).getD (k - 1) 0)
   have:(10:UInt8).toNat=10:=rfl
   omega
  ·have e:((bl l.P).take k).set (k - 1) (255 - ((bl l.P).take k).getD (k - 1) 0)=bl l.P:=by
    rw [List.take_of_length_le oM,List.set_eq_of_length_le oM]
   rw [e]; exact List.prefix_rfl
 ·rw [ht]
  have:=mP (x:=[]) sP 60 0 (bl l.D++bl l.P) ((bl l.D).length+k)
  rwa [List.append_nil] at this
theorem oX (p:List UInt8) (k:Nat) (torn:Bool):(gI p k torn).length≤p.length:=by
 unfold gI
 split
 ·rw [List.length_set,List.length_take]; omega
 ·rw [List.length_take]; omega
theorem u9 {s:ByteArray} (h:eN s=true):eF (eI s)=aF 60 0 (bl s):=by
 unfold eF
 rw [tq h,if_pos rfl,uf h,(fA h).1]
 simp only
 rw [show bl (⟨#[]⟩ : ByteArray) = [] from rfl,List.append_nil,lz]
theorem vc {l:Lg} {k:Int} {torn:Bool} (h:fz l k=true):eN (dk l k torn)=true∧l.D.size≤fQ (dk l k torn)∧(eI (dk l k torn)).D=(dk l k torn).extract 0 (fQ (dk l k torn)) ∧
  ∀ m1 m2,dV (eF (eI (dk l k torn))) m1→dV (eF l) m2→m1.length≤m2.length∧m1=m2.take m1.length:=by
 have h':=h
 unfold fz at h'
 rw [Bool.and_eq_true] at h'
 have hl:=h'.1
 obtain ⟨q1,q2,q3⟩:=ce.1 hl
 have hs:=fl q1
 obtain ⟨s,es⟩ : ∃ s,dk l k torn=s:=⟨_,rfl⟩
 have eb:bl s=bl l.D++gI (bl l.P) k.toNat torn:=by
  rw [← es]; unfold dk; rw [if_pos h,dw,bO (gI (bl l.P) k.toNat torn)]
 rw [es]
 have hz:eN s=true:=lA.2 (by
  have h1:=oX (bl l.P) k.toNat torn
  rw [← ao,eb,List.length_append]; omega)
 have hp:=uZ hl k.toNat torn
 rw [← eb] at hp
 refine ⟨hz, ?_,by rw [(fA hz).1,(fA hz).2],fun m1 m2 h1 h2=>?_⟩
 ·rw [(fA hz).2,eb,← ao,← q2]
  exact vT (oW 60 0 (bl l.D) _)
 ·rw [u9 hz] at h1
  have Ik:eF l=aF 60 0 (bl l.D++bl l.P):=by unfold eF; rw [hl,if_pos rfl]
  rw [Ik] at h2
  have n1:=gH h1
  have n2:=gH h2
  have e1:=List.prefix_iff_eq_take.1 hp
  refine ⟨by rw [n1,n2]; exact hp.length_le,mO h1 ?_⟩
  unfold dV at h2 ⊢
  rw [e1,← n1,List.map_take,h2,List.map_take]
theorem tu {l:Lg} {k:Int} {torn:Bool} (h:fz l k=false):dk l k torn=⟨#[]⟩:=by unfold dk; rw [h]; rfl
theorem rV (l:Lg) (k:Int) (torn:Bool):(dk l k torn).size≤l.D.size+l.P.size:=by
 cases h:fz l k with
 | false=>rw [tu h]; exact Nat.zero_le _
 | true =>
  unfold dk
  rw [if_pos h,bg,qB (gI (bl l.P) k.toNat torn)]
  have:=oX (bl l.P) k.toNat torn
  rw [ao] at this; omega
theorem tw {l:Lg} {e:dj} (h:l.D.size+l.P.size≤100000) (he : -1000≤l.n∧l.n≤1000):(cm l e).D.size+(cm l e).P.size≤200000∧(-1000≤(cm l e).n∧(cm l e).n≤1001):=by
 cases xq:(l.ok && e.ok) with
 | false=>rw [(iF xq).1]; omega
 | true =>
  by_cases hn:l.n=60
  ·rw [(fP xq hn).1]; omega
  ·rw [(fV xq hn).1]
   rw [Bool.and_eq_true] at xq
   have hl:=jr (k:=l.n.toNat) (show eX (bl e.c) (bl e.r)=true from xq.2) oM
   simp only [bg,qB]
   omega
theorem vU {l:Lg} {e:dj} (h:dY l e=0) {m1 m2:List dj} (h1:dV (eF (cm l e)) m1) (h2:dV (eF l) m2):m1=m2++[e]:=by
 obtain ⟨_,⟨n,hn⟩,_⟩:=wv h
 refine mO h1 ?_
 rw [hn]
 unfold dV at h2 ⊢
 rw [List.map_append,List.map_append,h2]; rfl
def PT (s:ByteArray):Prop:=bD (bl s)=true
theorem oY (n:Int):bD (Lib.itoa n)=true:=by
 have key:∀ m:Nat,∀ b ∈ Lib.decDigits m,iB b=true:=fun m b hb=>by
  have h:=mr m b hb
  have h5:(b != 35)=true:=by
   rw [bne_iff_ne]; rintro rfl
   have:(35:UInt8).toNat=35:=rfl
   omega
  unfold iB
  rw [h5,Bool.and_true,Bool.and_eq_true,decide_eq_true_eq,decide_eq_true_eq]
  omega
 unfold bD
 rw [List.all_eq_true]
 intro b hb
 unfold Lib.itoa at hb
 split at hb
 ·rcases List.mem_cons.1 hb with rfl | hb
  ·decide
  ·exact key _ _ hb
 ·exact key _ _ hb
theorem PT.app {a b:ByteArray} (h:PT a) (h' : PT b):PT (a++b):=by
 unfold PT bD at *
 rw [dw,List.all_append,h,h']; rfl
theorem PT.num (n:Int):PT (bM n):=by unfold PT; rw [bO]; exact oY n
theorem tz:∀ (l:List (List UInt8)),(∀ t ∈ l,bD t=true)→bD (Lib.join l [32])=true
 | [],_=>rfl
 | x :: r,h=>by
  rw [Lib.join_cons]
  unfold bD Lib.joinTail at *
  rw [List.all_append,h x sP,Bool.true_and,List.all_eq_true]
  intro b hb
  obtain ⟨t,ht,hb⟩:=List.mem_flatten.1 hb
  obtain ⟨u,hu,rfl⟩:=List.mem_map.1 ht
  rcases List.mem_append.1 hb with hb | hb
  ·rw [List.mem_singleton.1 hb]; decide
  ·exact List.all_eq_true.1 (h u (by simp [hu])) b hb
theorem PT.list (l:List Int):PT (fC l):=by
 unfold fC
 split
 ·show bD [110,111,110,101]=true; decide
 ·unfold PT; rw [bO]
  refine tz _ fun t ht=>?_
  obtain ⟨n,_,rfl⟩:=List.mem_map.1 ht
  exact oY n
theorem PT.tray (x:aN) (k:Int):PT (eH x k):=by
 unfold eH
 split
 ·unfold mD rC
  have h1:PT ⟨#[32,105,110,32]⟩:=(by decide:bD [32,105,110,32]=true)
  have h2:PT ⟨#[32,111,117,116]⟩:=(by decide:bD [32,111,117,116]=true)
  exact (((PT.num _).app h1).app (PT.num _)).app h2
 ·rfl
theorem PT.after (z:aN) (s:de):PT (iK z s):=by
 unfold iK
 split
 ·exact PT.num _
 split
 ·exact PT.num _
 split
 ·exact PT.num _
 exact PT.tray _ _
theorem PT.word {x:aN} {s t:ByteArray} (h:dy x s=some t):PT t:=by
 unfold dy at h
 repeat (split at h; · injection h with h; subst h; exact PT.num _)
 split at h
 ·split at h
  ·injection h with h; subst h; exact PT.num _
  ·cases h
 ·cases h
theorem PT.one {x:aN} {s t:ByteArray} {n:Int} (h:ia x s n=some t):PT t:=by
 unfold ia lp iJ kw at h
 repeat' split at h
 all_goals first | (cases h; done) | (injection h with h; subst h; first | exact PT.list _ | exact PT.tray _ _)
theorem PT.make {x:aN} {s:de} {r:Oc × ByteArray} (h:cc x s=some r):PT r.2:=by
 unfold cc at h
 obtain ⟨z,_,rfl⟩:=Option.map_eq_some_iff.1 h
 exact PT.after _ _
theorem PT.run {x:aN} {w0:ByteArray} {ns:List Int} {r:Oc × ByteArray} (h:bG x w0 ns=some r):PT r.2:=by
 unfold bG at h
 split at h
 ·obtain ⟨t,ht,rfl⟩:=Option.map_eq_some_iff.1 h; exact PT.word ht
 ·obtain ⟨t,ht,rfl⟩:=Option.map_eq_some_iff.1 h; exact PT.one ht
 ·obtain ⟨s,_,hs⟩:=Option.bind_eq_some_iff.1 h; exact PT.make hs
 ·obtain ⟨s,_,hs⟩:=Option.bind_eq_some_iff.1 h; exact PT.make hs
 ·cases h
theorem PT.rep (x:aN) (line:ByteArray):PT (jv x line):=by
 unfold jv
 split
 ·show bD [63]=true; decide
 ·rename_i r hr
  split
  ·show bD [108,111,110,103]=true; decide
  ·unfold jg at hr
   obtain ⟨ns,_,h⟩:=Option.bind_eq_some_iff.1 hr
   exact PT.run h
theorem wN {x:aN} {line:ByteArray} (h:dj.ok ⟨line,⟨#[]⟩⟩=true):dj.ok ⟨line,jv x line⟩=true:=by
 have h:eX (bl line) []=true:=h
 show eX (bl line) (bl (jv x line))=true
 obtain ⟨h1,h2,h3,h4,_,_⟩:=dd.1 h
 refine dd.2 ⟨h1,h2,h3,h4,PT.rep x line, ?_⟩
 rw [ao,uc]; exact oN _
structure tA (y:Oc) (l:Lg) (t:ByteArray):Prop where
 ok:mL y l=true
 code:dY l ⟨t,mf y l t⟩=0
 log:nA y l t=cm l ⟨t,mf y l t⟩
 n:(nA y l t).n=l.n+1
theorem tB (y:Oc) (l:Lg) (t:ByteArray):tA y l t ∨ (pL y l t=y∧nA y l t=l∧(mf y l t=⟨#[110,111]⟩ ∨ mf y l t=⟨#[98,97,100]⟩ ∨ mf y l t=⟨#[102,117,108,108]⟩)):=by
 by_cases h1:eu y.off l=true
 ·by_cases h2:dj.ok ⟨t,⟨#[]⟩⟩=true
  ·by_cases h3:l.n=60
   ·right
    unfold pL fD nA fH mf gA
    rw [if_pos h1,if_pos h1,if_pos h1,if_pos h2,if_pos h2,if_pos h2,if_pos h3,if_pos h3,if_pos h3]
    exact ⟨rfl,rfl,.inr (.inr rfl)⟩
   ·left
    have e1:mf y l t=jv y.off t:=by unfold mf gA; rw [if_pos h1,if_pos h2,if_neg h3]
    have e2:nA y l t=cm l ⟨t,jv y.off t⟩:=by unfold nA fH; rw [if_pos h1,if_pos h2,if_neg h3]
    have hl:l.ok=true:=(im.1 h1).2
    have ha:=fV (show (l.ok && dj.ok ⟨t,jv y.off t⟩)=true by rw [hl,wN h2]; rfl) h3
    exact ⟨h1,by rw [e1]; exact ha.2,by rw [e1,e2],by rw [e2,ha.1]⟩
  ·right
   unfold pL fD nA fH mf gA
   rw [if_pos h1,if_pos h1,if_pos h1,if_neg h2,if_neg h2,if_neg h2]
   exact ⟨rfl,rfl,.inr (.inl rfl)⟩
 ·right
  unfold pL fD nA fH mf gA
  rw [if_neg h1,if_neg h1,if_neg h1]
  exact ⟨rfl,rfl,.inl rfl⟩
theorem mQ {l:Lg} (h:l.ok=true):((gZ l).length:Int)=l.n:=by
 have:=(ce.1 h).2.2
 unfold gZ eF
 rw [if_pos h,List.length_map]
 exact this
theorem tA.recs {y:Oc} {l:Lg} {t:ByteArray} (h:tA y l t):gZ (nA y l t)=gZ l++[⟨t,mf y l t⟩]:=by
 rw [h.log]
 exact vU h.code (iO _) (iO _)
noncomputable def ic:List dj→Oc→Lg→Option (Oc × Lg)
 | [],y,l=>some (y,l)
 | e :: es,y,l=>if mf y l e.c=e.r then ic es (pL y l e.c) (nA y l e.c) else none
theorem oZ:∀ (m:List dj) (y:Oc) (l:Lg) (e:dj),ic (m++[e]) y l=(ic m y l).bind fun p=>if mf p.1 p.2 e.c=e.r then some (pL p.1 p.2 e.c,nA p.1 p.2 e.c) else none
 | [],y,l,e=>rfl
 | a :: m,y,l,e=>by
  rw [List.cons_append,ic,ic]
  split
  ·exact oZ m _ _ e
  ·rfl
theorem mR:∀ (m:List dj) (y:Oc) (l:Lg) (i:Nat) {p:Oc × Lg},ic m y l=some p→dX m y l i=i+m.length
 | [],_,_,_,_,_=>rfl
 | e :: m,y,l,i,p,h=>by
  unfold ic at h
  unfold dX
  split at h
  ·rename_i he
   rw [if_pos he,mR m _ _ _ h,List.length_cons]; omega
  ·cases h
theorem pQ:∀ (m:List dj) (y:Oc) (l:Lg) (k:Nat) {p:Oc × Lg},ic m y l=some p→∃ q,ic (m.take k) y l=some q
 | _,y,l,0,_,_=>⟨(y,l),by rw [List.take_zero]; rfl⟩
 | [],y,l,k+1,_,_=>⟨(y,l),rfl⟩
 | e :: m,y,l,k+1,p,h=>by
  unfold ic at h
  split at h
  ·rename_i he
   obtain ⟨q,hq⟩:=pQ m _ _ k h
   exact ⟨q,by rw [List.take_succ_cons,ic,if_pos he]; exact hq⟩
  ·cases h
structure ji (n:Int) (y:Oc) (l:Lg):Prop where
 ok:mL y l=true
 play:ic (gZ l) (eU n) Lg.zero=some (y,l)
theorem rW {n:Int} (h:bX n 1 9999=true):ji n (eU n) Lg.zero:=by
 have h1:=me h
 have h2:=mQ (im.1 h1).2
 have h3:gZ Lg.zero = []:=List.length_eq_zero_iff.1 (by have:Lg.zero.n=0:=rfl; omega)
 exact ⟨h1,by rw [h3]; rfl⟩
theorem ji.step {n:Int} {y:Oc} {l:Lg} (h:ji n y l) (t:ByteArray):ji n (pL y l t) (nA y l t):=by
 rcases tB y l t with hL | ⟨e1,e2,_⟩
 ·refine ⟨ma t h.ok, ?_⟩
  rw [hL.recs,oZ,h.play,Option.bind_some,if_pos rfl]
 ·rw [e1,e2]; exact h
theorem ji.all {n:Int} {y:Oc} {l:Lg} (h:ji n y l) (hn:bX n 1 9999=true):ib n l=true∧(mc n l:Int)=l.n:=by
 have hl:=(im.1 h.ok).2
 have h1:ib n l=true:=by unfold ib; rw [hn,hl]; rfl
 refine ⟨h1, ?_⟩
 unfold mc
 rw [if_pos h1,mR _ _ _ _ h.play,← mQ hl]; omega
theorem ji.part {n:Int} {y:Oc} {l:Lg} {k:Int} (h:ji n y l) (hn:bX n 1 9999=true) (hk:0≤k∧k≤(l.P.size:Int)):fz l k=true∧eN (dk l k false)=true∧ib n (eI (dk l k false))=true∧(mc n (eI (dk l k false)):Int)=(eI (dk l k false)).n:=by
 have hl:=(im.1 h.ok).2
 have hc:fz l k=true:=by unfold fz; rw [hl,Bool.true_and]; exact bV.2 hk
 obtain ⟨h1,_,_,h2⟩:=vc (torn:=false) hc
 obtain ⟨_,h3⟩:=h2 _ _ (iO _) (iO l)
 have hp:=tq h1
 have h4:ib n (eI (dk l k false))=true:=by unfold ib; rw [hn,hp]; rfl
 obtain ⟨q,hq⟩:=pQ _ _ _ (gZ (eI (dk l k false))).length h.play
 rw [← h3] at hq
 refine ⟨hc,h1,h4, ?_⟩
 unfold mc
 rw [if_pos h4,mR _ _ _ _ hq,← mQ hp]; omega
def wO (l:Lg):Prop:=l.D.size+l.P.size≤200000∧(-1000≤l.n∧l.n≤1001)
set_option maxRecDepth 100000 in
theorem o4 (A:Option Addr) (cap:Nat) (bs:List UInt8) (w:World) (hr:gB w w.heap.size A bs) :
  Calls xi 35 #[F A bs.length cap] w fun e w'=>∃ (n:Int) (l:Lg),e=.returned (.tuple #[O U n,l.val])∧(0≤n∧n≤10000)∧wO l∧Below w.heap.size w w':=by
 have b1:Below w.heap.size w ((w.alloc (.cells #[xh ⟨#[]⟩,xh ⟨#[]⟩,O U 0] 27)).alloc (.cells #[F A bs.length cap,O U 0,.int .u64 0] 92)):=((Below.refl w.heap.size w).alloc (by exact Nat.le_refl _) (.cells #[xh ⟨#[]⟩,xh ⟨#[]⟩,O U 0] 27)).alloc sP (.cells #[F A bs.length cap,O U 0,.int .u64 0] 92)
 have Lc:=ai.newB w (.cells #[xh ⟨#[]⟩,xh ⟨#[]⟩,O U 0] 27) 92 #[F A bs.length cap,O U 0,.int .u64 0]
 have L2:=(ai.new w 27 #[xh ⟨#[]⟩,xh ⟨#[]⟩,O U 0]).alloc (.cells #[F A bs.length cap,O U 0,.int .u64 0] 92)
 go_enter Tryz.func35,Tryz.ntmps35
 go_upto_region 2 with fail
 generalize ((w.alloc (.cells #[xh ⟨#[]⟩,xh ⟨#[]⟩,O U 0] 27)).alloc (.cells #[F A bs.length cap,O U 0,.int .u64 0] 92))=W1 at b1 Lc L2 ⊢
 have E1:fb w W1 (w.heap.size+1) A bs cap 0:=⟨⟨0,0,Lc,Nat.le_refl _,oM,oM⟩,(bi.below hr b1).mono oM,bJ b1 _⟩
 have AB:=Lc.lt
 have G1:=bJ b1 (some (w.heap.size+1))
 clear hr Lc b1
 go_wp2_with fail
 refine (kA E1 [1,30,200,9999,10000] 5 rfl _ rfl oM oM oM).mono ?_
 rintro e W2 ⟨n,rfl,hn,E2,gr⟩
 have Cs:0≤n∧n≤10000:=by
  simp only [mC,mN,oF] at hn
  rcases hn with rfl | rfl | rfl | rfl | rfl <;> omega
 replace L2:=L2.kept gr iE
 replace G1:=aA G1 gr
 have Gj:=gr.size
 clear gr E1 hn
 go_wp2_with fail
 refine (kz n W2).mono ?_
 rintro e W3 ⟨TA,tc,OA,oc,rfl,hT,hO,hb⟩
 have xq:=me (n:=n)
 generalize eU n=y at hT hO xq ⊢
 generalize bX n 1 9999=bo at xq ⊢
 have l0:∃ l:Lg,l=⟨⟨#[]⟩,⟨#[]⟩,0⟩:=⟨_,rfl⟩
 obtain ⟨l,Ee⟩:=l0
 have S:XS w (W3.alloc (.cells #[F TA y.t.length tc,F OA y.o.length oc,O U y.gt,O U y.sd,O U y.ms,xh ⟨#[]⟩,xh ⟨#[]⟩,O U 0] 42)) A bs cap 140000 27 [xh ⟨#[]⟩,xh ⟨#[]⟩,O U 0] W3.heap.size y ⟨⟨#[]⟩,⟨#[]⟩,0⟩:=⟨((E2.below hb).alloc _).mono oM,(L2.below hb L2.lt).alloc _,⟨TA,tc,OA,oc,ai.new W3 _ _,(ag hT oM).alloc _,(ag hO oM).alloc _⟩,cr (aA G1 (bJ hb _)) _,by have:=hb.size; omega⟩
 clear hT hO hb E2 L2 G1 Gj AB Ee l
 go_upto_if 22 with fail
 generalize (W3.alloc (.cells #[F TA y.t.length tc,F OA y.o.length oc,O U y.gt,O U y.sd,O U y.ms,xh ⟨#[]⟩,xh ⟨#[]⟩,O U 0] 42))=W4 at S ⊢
 generalize W3.heap.size=g6 at S ⊢
 have h6:=S.l5
 cases bo
 ·have L2:=S.out
  have BB:=gw S.gr oM
  obtain ⟨u0,u1,u2⟩:=cells3 L2
  obtain ⟨f0,f1,f2⟩:=frz3 L2
  have LS:=kK L2 (xh ⟨#[]⟩) (xh ⟨#[]⟩) (O U 0)
  have BB2:=jZ (gw (bf S.gr (dx W4 w.heap.size (xh ⟨#[]⟩) (xh ⟨#[]⟩) (O U 0)) nR) oM)
  obtain ⟨z0,z1,z2⟩:=cells3 LS
  clear LS BB L2 S xq
  go_wp2
  refine bodyPost_ret (v:=.tuple #[O U n,Lg.val ⟨⟨#[]⟩,⟨#[]⟩,0⟩]) (by simp [results,Tryz.results35,go_sem, *]) rfl ?_
  exact ⟨n,_,rfl,Cs,⟨dD,dD,dD⟩,BB2.out⟩
 ·have zT:=jZ (xq rfl)
  clear xq
  go_wp2_with fail
  refine (dp S.env 12 oM oM).mono ?_
  rintro e W5 ⟨x,rfl,hx,E5,gr⟩
  have HS:=jZ (S.next E5 gr)
  clear S E5 gr
  go_wp2_with fail
  go_loopw [8] (fun i wr=>∃ (k:Nat) (y:Oc) (l:Lg),k≤11∧i=O U k∧Hid (mL y l=true)∧Hid (XS w wr A bs cap (141000+2100 * (12 - k)) 27 [xh ⟨#[]⟩,xh ⟨#[]⟩,O U 0] g6 y l)) (fun i _=>(intOf i).toNat)
  case atStart=>exact ⟨x,y,_,oM,rfl,zT,HS.out.mono oM⟩
  case round =>
   clear HS zT hx
   obtain ⟨k,y,l,hk,rfl,xF,HS⟩:=hrel
   have hgB:(w.heap.size+1) < w.heap.size+2:=oM
   have St:=HS.out
   by_cases xu:0 < k
   ·have hlt' : (0:Int) < (k:Int):=oM
    obtain ⟨TA,tc,OA,oc,K6,hT,hO⟩:=St.con
    obtain ⟨zM,⟨JV,JW⟩,Cq,_,_⟩:=tj xF.out
    have Bf:=jZ zM
    have Fm:(y.at TA tc OA oc).t.length≤100000:=by show y.t.length≤_; omega
    have KM:(y.at TA tc OA oc).o.length≤100000:=by show y.o.length≤_; omega
    have Av:Hid (∀ b,Value.ownBlock (F TA y.t.length tc)=some b→b ∉ [(w.heap.size+1),g6]):=by
     intro b hb hm; simp only [mC,mN,oF] at hm
     have:=(hT.lt b hb).1
     rcases hm with rfl | rfl; omega; exact bn hT K6 eZ hb.symm
    have Dn:Hid (∀ b,Value.ownBlock (F OA y.o.length oc)=some b→b ∉ [(w.heap.size+1),g6]):=by
     intro b hb hm; simp only [mC,mN,oF] at hm
     have:=(hO.lt b hb).1
     rcases hm with rfl | rfl; omega; exact bn hO K6 fa hb.symm
    have Ac:Hid (∀ p ∈ [bp.lies 8 g6 42 [F TA y.t.length tc,F OA y.o.length oc,O U y.gt,O U y.sd,O U y.ms,xh l.D,xh l.P,O U l.n]],p.blk ≠ some (w.heap.size+1)∧p.P wr):=by
     intro p hp; simp only [List.mem_singleton] at hp; subst hp; exact ⟨by intro e; injection e; omega,K6⟩
    have xC:=K6.lt
    have EH:w.heap.size+2≤wr.heap.size:=oM
    clear zM
    go_upto_region 9 with fail
    refine al (Dr w wr (w.heap.size+1) A bs cap (141000+2100 * (12 - k)) 210 9 [(w.heap.size+1),g6] [bp.lies 8 g6 42 [F TA y.t.length tc,F OA y.o.length oc,O U y.gt,O U y.sd,O U y.ms,xh l.D,xh l.P,O U l.n]]) (fun i w1 w2=>i ∉ [8]→w1.grownBy w2 (some (w.heap.size+1))) kZ kZ kZ (Dr.start St.env Ac.out) ?_
    simp only [ax,Act.put,sA,gs0,gs1,Nat.zero_add,Nat.reduceAdd]
    apply aa
    case h1 =>
     intro vs L9 w9 xl xj hB K9 xk
     have q0:w9.cell? ⟨g6,0,none⟩=some (F TA y.t.length tc):=((xj.room (bp.lies 8 g6 42 [F TA y.t.length tc,F OA y.o.length oc,O U y.gt,O U y.sd,O U y.ms,xh l.D,xh l.P,O U l.n]) sP).2 (xl.open_ 8 kZ)).cell 0
     have q1:w9.cell? ⟨g6,1,none⟩=some (F OA y.o.length oc):=((xj.room (bp.lies 8 g6 42 [F TA y.t.length tc,F OA y.o.length oc,O U y.gt,O U y.sd,O U y.ms,xh l.D,xh l.P,O U l.n]) sP).2 (xl.open_ 8 kZ)).cell 1
     have q2:w9.cell? ⟨g6,2,none⟩=some (O U y.gt):=((xj.room (bp.lies 8 g6 42 [F TA y.t.length tc,F OA y.o.length oc,O U y.gt,O U y.sd,O U y.ms,xh l.D,xh l.P,O U l.n]) sP).2 (xl.open_ 8 kZ)).cell 2
     have q3:w9.cell? ⟨g6,3,none⟩=some (O U y.sd):=((xj.room (bp.lies 8 g6 42 [F TA y.t.length tc,F OA y.o.length oc,O U y.gt,O U y.sd,O U y.ms,xh l.D,xh l.P,O U l.n]) sP).2 (xl.open_ 8 kZ)).cell 3
     have q4:w9.cell? ⟨g6,4,none⟩=some (O U y.ms):=((xj.room (bp.lies 8 g6 42 [F TA y.t.length tc,F OA y.o.length oc,O U y.gt,O U y.sd,O U y.ms,xh l.D,xh l.P,O U l.n]) sP).2 (xl.open_ 8 kZ)).cell 4
     have q5:w9.cell? ⟨g6,5,none⟩=some (xh l.D):=((xj.room (bp.lies 8 g6 42 [F TA y.t.length tc,F OA y.o.length oc,O U y.gt,O U y.sd,O U y.ms,xh l.D,xh l.P,O U l.n]) sP).2 (xl.open_ 8 kZ)).cell 5
     have q6:w9.cell? ⟨g6,6,none⟩=some (xh l.P):=((xj.room (bp.lies 8 g6 42 [F TA y.t.length tc,F OA y.o.length oc,O U y.gt,O U y.sd,O U y.ms,xh l.D,xh l.P,O U l.n]) sP).2 (xl.open_ 8 kZ)).cell 6
     have q7:w9.cell? ⟨g6,7,none⟩=some (O U l.n):=((xj.room (bp.lies 8 g6 42 [F TA y.t.length tc,F OA y.o.length oc,O U y.gt,O U y.sd,O U y.ms,xh l.D,xh l.P,O U l.n]) sP).2 (xl.open_ 8 kZ)).cell 7
     simp only [Act.put,sA,gs0,gs1] at xk
     go_simp
     exact xk _ _ rfl (dS xl xj) gR
    refine aa _ vd0 ?_
    apply aa
    case h1 =>
     intro vs L9 w9 xl xj hB K9 xk
     have q0:w9.cell? ⟨g6,0,none⟩=some (F TA y.t.length tc):=((xj.room (bp.lies 8 g6 42 [F TA y.t.length tc,F OA y.o.length oc,O U y.gt,O U y.sd,O U y.ms,xh l.D,xh l.P,O U l.n]) sP).2 (xl.open_ 8 kZ)).cell 0
     have q1:w9.cell? ⟨g6,1,none⟩=some (F OA y.o.length oc):=((xj.room (bp.lies 8 g6 42 [F TA y.t.length tc,F OA y.o.length oc,O U y.gt,O U y.sd,O U y.ms,xh l.D,xh l.P,O U l.n]) sP).2 (xl.open_ 8 kZ)).cell 1
     have q2:w9.cell? ⟨g6,2,none⟩=some (O U y.gt):=((xj.room (bp.lies 8 g6 42 [F TA y.t.length tc,F OA y.o.length oc,O U y.gt,O U y.sd,O U y.ms,xh l.D,xh l.P,O U l.n]) sP).2 (xl.open_ 8 kZ)).cell 2
     have q3:w9.cell? ⟨g6,3,none⟩=some (O U y.sd):=((xj.room (bp.lies 8 g6 42 [F TA y.t.length tc,F OA y.o.length oc,O U y.gt,O U y.sd,O U y.ms,xh l.D,xh l.P,O U l.n]) sP).2 (xl.open_ 8 kZ)).cell 3
     have q4:w9.cell? ⟨g6,4,none⟩=some (O U y.ms):=((xj.room (bp.lies 8 g6 42 [F TA y.t.length tc,F OA y.o.length oc,O U y.gt,O U y.sd,O U y.ms,xh l.D,xh l.P,O U l.n]) sP).2 (xl.open_ 8 kZ)).cell 4
     have q5:w9.cell? ⟨g6,5,none⟩=some (xh l.D):=((xj.room (bp.lies 8 g6 42 [F TA y.t.length tc,F OA y.o.length oc,O U y.gt,O U y.sd,O U y.ms,xh l.D,xh l.P,O U l.n]) sP).2 (xl.open_ 8 kZ)).cell 5
     have q6:w9.cell? ⟨g6,6,none⟩=some (xh l.P):=((xj.room (bp.lies 8 g6 42 [F TA y.t.length tc,F OA y.o.length oc,O U y.gt,O U y.sd,O U y.ms,xh l.D,xh l.P,O U l.n]) sP).2 (xl.open_ 8 kZ)).cell 6
     have q7:w9.cell? ⟨g6,7,none⟩=some (O U l.n):=((xj.room (bp.lies 8 g6 42 [F TA y.t.length tc,F OA y.o.length oc,O U y.gt,O U y.sd,O U y.ms,xh l.D,xh l.P,O U l.n]) sP).2 (xl.open_ 8 kZ)).cell 7
     simp only [Act.put,sA,gs0,gs1] at xk
     go_simp
     exact xk _ _ rfl (dS xl xj) gR
    refine sm0 [] (fun v _=>∃ t:ByteArray,v=xh t∧t.size≤500) (fun vs L9 w9 xl xj hB K9 xk=>?_) ?_
    next =>
     have d1:=fe hB 1
     have d2:=fe hB 2
     simp only [d1,d2] at xk ⊢
     simp only [Act.put,sA,gs0,gs1] at xk
     go_simp
     refine (gW (y.at TA tc OA oc) l Bf.out (w.heap.size+1) A bs cap _ w w9 (by have:=xj.cnt; omega) Fm KM xj.env ⟨an (xj.owns hT Av.out),an (xj.owns hO Dn.out)⟩ (fun b e=>by have:=hQ hT b e; omega) (fun b e=>by have:=hQ hO b e; omega)).mono ?_
     rintro en w8 ⟨t8,rfl,Cb,yN,xP⟩
     exact xk _ _ _ rfl ⟨t8,rfl,Cb⟩ (xj.call xl.self dD yN oM xP sP) (fun _=>xP)
    refine sm [8] (fun v w9=>∃ (u:Value) (z:Oc) (q:Lg) (T:ByteArray),v=.tuple #[u,xh T]∧gX w9 (w.heap.size+2) z q u∧mL z q=true) (fun vs L9 w9 xl xj hB K9 xk=>?_) ?_
    next =>
     have d0:=fe hB 0
     simp only [d0] at xk ⊢
     simp only [Act.put,sA,gs0,gs1] at xk
     obtain ⟨t3,e3,ez3⟩:=fs hB 3
     simp only [e3] at xk ⊢
     go_simp
     have hwS:(w.heap.size+2)≤w9.heap.size:=jT EH xj.size
     have FV:mL (fD (y.at TA tc OA oc) l t3) (fH (y.at TA tc OA oc) l t3)=true:=by rw [nJ,nK]; exact ma t3 xF.out
     refine (ls (y.at TA tc OA oc) l t3 w9 ⟨an (xj.owns hT Av.out),an (xj.owns hO Dn.out)⟩ (by show y.t.length≤_; omega) (by show y.o.length≤_; omega) oM oM).mono ?_
     rintro en w8 ⟨v8,rfl,Bs,xm⟩
     exact xk _ _ _ rfl ⟨v8,_,_,_,rfl,Bs.lower hwS,FV⟩ (xj.below xl.self dD xm) (fun _=>bJ xm _)
    refine pm0 [] 4 (fun u v _=>v=u∧∃ q T,u=.tuple #[q,xh T]) (fun vs L9 w9 xl xj hB K9 xk=>?_) ?_
    next =>
     obtain ⟨u5,_,_,T5,e5,_⟩:=fs hB 4
     simp only [e5] at xk ⊢
     go_simp
     exact xk _ _ _ rfl ⟨rfl,u5,T5,rfl⟩ (dS xl xj) gR
    refine sm [8] (fun v w9=>∃ (z:Oc) (q:Lg),gX w9 (w.heap.size+2) z q v∧mL z q=true) (fun vs L9 w9 xl xj hB K9 xk=>?_) ?_
    next =>
     simp only [Act.put,sA,gs0,gs1] at xk
     obtain ⟨q5,_⟩:=fs hB 5
     obtain ⟨u4,z4,l4,T4,e4,h4,h4g⟩:=fs hB 4
     simp only [q5,e4] at xk ⊢
     go_simp
     exact xk _ _ _ rfl ⟨z4,l4,h4,h4g⟩ (dS xl xj) gR
    refine sm0 [] (fun v _=>∃ T:ByteArray,v=xh T) (fun vs L9 w9 xl xj hB K9 xk=>?_) ?_
    next =>
     simp only [Act.put,sA,gs0,gs1] at xk
     obtain ⟨q5,u4,T4,e4⟩:=fs hB 5
     simp only [q5,e4] at xk ⊢
     go_simp
     exact xk _ _ _ rfl ⟨_,rfl⟩ (dS xl xj) gR
    refine sm [] (fun _ w9=>∃ (z:Oc) (q:Lg),cn w9 (w.heap.size+2) g6 z q∧mL z q=true) (fun vs L9 w9 xl xj hB K9 xk=>?_) ?_
    next =>
     simp only [Act.put] at xk
     obtain ⟨z,q,⟨TB,tb,OB,ob,e6,h1,h2⟩,FW⟩:=fs hB 6
     have xS:ai w9 g6 42 [F TA y.t.length tc,F OA y.o.length oc,O U y.gt,O U y.sd,O U y.ms,xh l.D,xh l.P,O U l.n]:=(xj.room (bp.lies 8 g6 42 [F TA y.t.length tc,F OA y.o.length oc,O U y.gt,O U y.sd,O U y.ms,xh l.D,xh l.P,O U l.n]) sP).2 xl.self
     simp only [e6] at xk ⊢
     obtain ⟨x0,x1,x2,x3,x4,x5,x6,x7⟩:=cells8 xS
     obtain ⟨f0,f1,f2,f3,f4,f5,f6,f7⟩:=frz8 xS
     have Fo:=jZ (cn.put (l:=q) xS h1 h2)
     have yO:=jZ (gw8 w9 g6 (F TB z.t.length tb) (F OB z.o.length ob) (O U z.gt) (O U z.sd) (O U z.ms) (xh q.D) (xh q.P) (O U q.n))
     clear h1 h2 xS
     go_simp
     exact xk _ undef _ rfl ⟨z,q,Fo.out,FW⟩ (xj.wrote xl.self dD yO.out (fun b e=>by injection e with e; subst e; exact ⟨oM,oM,.inl sP⟩) (by intro p hp e; simp only [List.mem_singleton] at hp; subst hp; exact .inl rfl)) nq
    refine au fun vs Lq W5 xv yu hB=>?_
    obtain ⟨z,q,Im,In⟩:=hB 8 _ rfl rfl dD
    clear hB xv
    have NH:Hid (XS w W5 A bs cap (141000+2100 * (12 - (k - 1))) 27 [xh ⟨#[]⟩,xh ⟨#[]⟩,O U 0] g6 z q):=⟨yu.le.mono oM,yu.lies St.out (by simp only [mC,mN,oF]; omega),Im,dK St.gr yu (by intro k hk xw; simp only [mC,mN,oF] at hk; omega) St.env,h6⟩
    have AR:=jZ In
    have Bm:IntKind.i64.wrap ((k:Int) - 1)=(k:Int) - 1:=IntWalk.i64_in _ oM
    have AA:((k:Int) - 1)=((k - 1:Nat):Int):=oM
    have CP:=jZ AA
    clear AA Im In yu St hT hO K6 Av Dn Ac xF HS
    go_wp2
    go_roundw
    case rel=>exact ⟨k - 1,z,q,oM,by rw [CP.out],AR,NH⟩
    case measure=>simp [intOf]; omega
   ·obtain rfl:k=0:=oM
    have y7 : ¬ (0:Int) < ((0:Nat):Int):=oM
    obtain ⟨TA,tc,OA,oc,K6,hT,hO⟩:=St.con
    have Gp:=jZ (tj xF.out).2.2
    obtain ⟨c0,c1,c2,c3,c4,c5,c6,c7⟩:=cells8 K6
    clear xu xF hk
    go_upto_region 11 with fail
    have S7:=HS.out.alloc (.cells #[xh l.D,xh l.P,O U l.n] 27)
    have L9:=ai.new wr 27 #[xh l.D,xh l.P,O U l.n]
    have h9:g6 < wr.heap.size:=K6.lt
    clear HS St K6 hT hO c0 c1 c2 c3 c4 c5 c6 c7
    generalize wr.alloc (.cells #[xh l.D,xh l.P,O U l.n] 27)=W7 at S7 L9 ⊢
    generalize wr.heap.size=g9 at L9 h9 ⊢
    go_wp2_with fail
    refine (jC S7.env 3 oM oM).mono ?_
    rintro e W8 ⟨q,rfl,E8,gr⟩
    have S8:=(S7.next E8 gr).mono (show _≤180000 by omega)
    have K9:=L9.kept gr iE
    clear S7 L9 E8 gr
    go_upto_if 42 with fail
    go_cut [] (fun wx=>∃ l2:Lg,wO l2∧ai wx g9 27 [xh l2.D,xh l2.P,O U l2.n]∧ai wx w.heap.size 27 [xh ⟨#[]⟩,xh ⟨#[]⟩,O U 0]∧w.grownBy wx (some (w.heap.size+1)))
    case first =>
     cases q
     ·go_wp2_with fail
      go_meet
      case rel=>exact ⟨l,⟨by have:=Gp.out.1; omega,by have:=Gp.out.2; omega⟩,K9,S8.out,S8.gr⟩
     ·have Ac:Hid (∀ p ∈ [bp.lies 7 g9 27 [xh l.D,xh l.P,O U l.n]],p.blk ≠ some (w.heap.size+1)∧p.P W8):=by
       intro p hp; simp only [List.mem_singleton] at hp; subst hp; exact ⟨by intro e; injection e; omega,K9⟩
      go_upto_region 12 with fail
      refine al (Dr w W8 (w.heap.size+1) A bs cap (180000) 8 8 [(w.heap.size+1),g9] [bp.lies 7 g9 27 [xh l.D,xh l.P,O U l.n]]) (fun i w1 w2=>i ∉ [7]→w1.grownBy w2 (some (w.heap.size+1))) kZ kZ kZ (Dr.start S8.env Ac.out) ?_
      simp only [ax,Act.put,sA,gs0,gs1,Nat.zero_add,Nat.reduceAdd]
      apply aa
      case h1 =>
       intro vs L9 w9 xl xj hB K9 xk
       have q0:w9.cell? ⟨g9,0,none⟩=some (xh l.D):=((xj.room (bp.lies 7 g9 27 [xh l.D,xh l.P,O U l.n]) sP).2 (xl.open_ 7 kZ)).cell 0
       have q1:w9.cell? ⟨g9,1,none⟩=some (xh l.P):=((xj.room (bp.lies 7 g9 27 [xh l.D,xh l.P,O U l.n]) sP).2 (xl.open_ 7 kZ)).cell 1
       have q2:w9.cell? ⟨g9,2,none⟩=some (O U l.n):=((xj.room (bp.lies 7 g9 27 [xh l.D,xh l.P,O U l.n]) sP).2 (xl.open_ 7 kZ)).cell 2
       simp only [Act.put,sA,gs0,gs1] at xk
       go_simp
       exact xk _ _ rfl (dS xl xj) gR
      refine aa _ vd0 ?_
      refine sm0 [] (fun v _=>∃ r:dj,v=r.val∧(r.c.size≤20∧r.r.size≤20)) (fun vs L9 w9 xl xj hB K9 xk=>?_) ?_
      next =>
       have d1:=fe hB 1
       simp only [d1] at xk ⊢
       simp only [Act.put,sA,gs0,gs1] at xk
       go_simp
       refine (lg (w.heap.size+1) A bs cap _ w w9 (by have:=xj.cnt; omega) xj.env).mono ?_
       rintro en w8 ⟨r8,rfl,Ks,yN,xP⟩
       exact xk _ _ _ rfl ⟨r8,rfl,Ks⟩ (dC xl xj yN xP) (fun _=>xP)
      refine sm0 [] (fun v _=>∃ (l2:Lg) (c:Int),v=.tuple #[l2.val,O U c]∧wO l2) (fun vs L9 w9 xl xj hB K9 xk=>?_) ?_
      next =>
       have d0:=fe hB 0
       simp only [d0] at xk ⊢
       simp only [Act.put,sA,gs0,gs1] at xk
       obtain ⟨r2,e2,er2⟩:=fs hB 2
       simp only [e2] at xk ⊢
       have Ku:wO (cm l r2):=tw (by have:=Gp.out.1; omega) (by have:=Gp.out.2; omega)
       have GR:=Gp.out.1
       go_simp
       refine (gu l r2 w9 oM oM oM).mono ?_
       rintro en w8 ⟨rfl,xm⟩
       exact xk _ _ _ rfl ⟨cm l r2,_,rfl,Ku⟩ (xj.below xl.self dD xm) (fun _=>bJ xm _)
      refine sm0 [] (fun v _=>∃ (l2:Lg) (c:Int),v=.tuple #[l2.val,O U c]∧wO l2) (fun vs L9 w9 xl xj hB K9 xk=>?_) ?_
      next =>
       simp only [Act.put,sA,gs0,gs1] at xk
       obtain ⟨l3,c3,e3,el3⟩:=fs hB 3
       simp only [e3] at xk ⊢
       go_simp
       exact xk _ _ _ rfl ⟨l3,c3,rfl,el3⟩ (dS xl xj) gR
      refine sm0 [] (fun v _=>∃ l2:Lg,v=l2.val∧wO l2) (fun vs L9 w9 xl xj hB K9 xk=>?_) ?_
      next =>
       simp only [Act.put,sA,gs0,gs1] at xk
       obtain ⟨l4,c4,e4,el4⟩:=fs hB 4
       simp only [e4] at xk ⊢
       go_simp
       exact xk _ _ _ rfl ⟨l4,rfl,el4⟩ (dS xl xj) gR
      refine sm0 [] (fun v _=>∃ z:Int,v=O U z) (fun vs L9 w9 xl xj hB K9 xk=>?_) ?_
      next =>
       simp only [Act.put,sA,gs0,gs1] at xk
       obtain ⟨l4,c4,e4,el4⟩:=fs hB 4
       simp only [e4] at xk ⊢
       go_simp
       exact xk _ _ _ rfl ⟨c4,rfl⟩ (dS xl xj) gR
      refine sm [] (fun _ w9=>∃ l2:Lg,wO l2∧ai w9 g9 27 [xh l2.D,xh l2.P,O U l2.n]) (fun vs L9 w9 xl xj hB K9 xk=>?_) ?_
      next =>
       simp only [Act.put] at xk
       obtain ⟨l5,e5,el5⟩:=fs hB 5
       simp only [e5] at xk ⊢
       have xv:ai w9 g9 27 [xh l.D,xh l.P,O U l.n]:=(xj.room (bp.lies 7 g9 27 [xh l.D,xh l.P,O U l.n]) sP).2 xl.self
       obtain ⟨y0,y1,y2⟩:=cells3 xv
       obtain ⟨f0,f1,f2⟩:=frz3 xv
       have xD:ai _ g9 27 [xh l5.D,xh l5.P,O U l5.n]:=(((xv.set 0 (xh l5.D)).set 1 (xh l5.P)).set 2 (O U l5.n))
       have yO:=jZ (gw3 w9 g9 (xh l5.D) (xh l5.P) (O U l5.n))
       have xO:=jZ xD
       clear xD xv
       go_simp
       exact xk _ undef _ rfl ⟨l5,el5,xO.out⟩ (xj.wrote xl.self dD yO.out (fun b e=>by injection e with e; subst e; exact ⟨oM,oM,.inl sP⟩) (by intro p hp e; simp only [mC,mN,oF] at hp; first | (subst hp; exact .inl rfl) | (rcases hp with rfl | rfl <;> first | exact .inl rfl | exact absurd (Option.some.inj e) oM))) nq
      refine au fun vs Lq W9 xv xj hB=>?_
      obtain ⟨l2,KO,Gq⟩:=hB 7 _ rfl rfl dD
      clear hB xv
      have yk:=xj.lies S8.out (by simp only [mC,mN,oF]; omega)
      have xl:=dK S8.gr xj (by intro k hk xw; simp only [mC,mN,oF] at hk; omega) S8.env
      clear xj S8 K9 Ac
      go_wp2_with fail
      go_meet
      case rel=>exact ⟨l2,KO,Gq,yk,xl⟩
    case rest =>
     clear S8 K9 Gp
     obtain ⟨l2,KO,K9,L2,G2⟩:=hcut
     have K9:ai wc.drew g9 27 [xh l2.D,xh l2.P,O U l2.n]:=K9
     have L2:ai wc.drew w.heap.size 27 [xh ⟨#[]⟩,xh ⟨#[]⟩,O U 0]:=L2
     have LS:=kK L2 (xh l2.D) (xh l2.P) (O U l2.n)
     have BB:=jZ (gw (bf (ff G2) (dx wc.drew w.heap.size (xh l2.D) (xh l2.P) (O U l2.n)) nR) oM)
     obtain ⟨k0,k1,k2⟩:=cells3 K9
     obtain ⟨u0,u1,u2⟩:=cells3 L2
     obtain ⟨f0,f1,f2⟩:=frz3 L2
     obtain ⟨z0,z1,z2⟩:=cells3 LS
     clear G2 L2 K9 LS
     go_upto_region 13 with fail
     go_still_tail 3,kZ
     change wpList _ _ _ _ _ wc.drew
     generalize wc.drew=wd at k0 k1 k2 u0 u1 u2 f0 f1 f2 z0 z1 z2 BB ⊢
     go_wp2
     all_goals
      refine bodyPost_ret (v:=.tuple #[O U n,l2.val]) (by simp [results,Tryz.results35,go_sem, *]) rfl ?_
      exact ⟨n,l2,rfl,Cs,KO,BB.out⟩
abbrev rX (m:List ByteArray):List Value:=m.map Value.string
def pn (w:World) (B:Nat) (A:Option Addr) (m:List ByteArray):Prop:=bi w B 1 A m.length (rX m)
abbrev o5 (w:World) (B:Nat) (A:Option Addr) (c:Nat) (m:List ByteArray):Prop:=w.ownsRow B 9 1 (F A m.length c) m.length (rX m)
theorem o5.reads {w:World} {B c:Nat} {A:Option Addr} {m:List ByteArray} (h:o5 w B A c m):pn w w.heap.size A m:=(cq.of h).reads
theorem pn.then {w w' : World} {A:Option Addr} {m:List ByteArray} (h:pn w w.heap.size A m) (hb:Below w.heap.size w w'):pn w' w'.heap.size A m:=bi.then h hb
theorem vV (m:List ByteArray) (i:Nat) (h:i < m.length):(rX m)[i]?=some (xh m[i]):=by simp [rX,h]
theorem pn.cells {w:World} {B:Nat} {A:Option Addr} {m:List ByteArray} (h:pn w B A m) (xw:0 < m.length):∃ b off,A=some ⟨b,off,none⟩∧b < B∧∀ i (hi:i < m.length) (p:aq B w),p.val.cell? ⟨b,off+i,none⟩=some (xh m[i]):=by
 obtain ⟨b,off,e,hb,hc⟩:=bi.at_ h xw
 exact ⟨b,off,e,hb,fun i hi p=>by rw [p.cell hb]; exact hc _ _ (vV m i hi)⟩
theorem vW {w0 w:World} {B g:Nat} {t:TypeId} {x0 x1 x2 x3 x4 x5 x6 x7:Value} (hL:ai w g t [x0,x1,x2,x3,x4,x5,x6,x7]) (b:Below B w0 w) (hB:B≤g) (a0 a1 a2 a3 a4 a5 a6 a7:Value) :
  ∃ W' : World,Hid ((((((((w.setCell ⟨g,0,none⟩ a0).setCell ⟨g,1,none⟩ a1).setCell ⟨g,2,none⟩ a2).setCell ⟨g,3,none⟩ a3).setCell ⟨g,4,none⟩ a4).setCell ⟨g,5,none⟩ a5).setCell ⟨g,6,none⟩ a6).setCell ⟨g,7,none⟩ a7=W')∧ai W' g t [a0,a1,a2,a3,a4,a5,a6,a7]∧Below B w0 W'∧w.grownBy W' (some g) :=
 ⟨_,rfl,ny hL a0 a1 a2 a3 a4 a5 a6 a7,eW b hB a0 a1 a2 a3 a4 a5 a6 a7,ab (ab (ab (ab (ab (ab (ab (ab (World.grownBy.refl w (some g)))))))))⟩
def ug (w:World) (m:List ByteArray) (ok:Bool) (e:Ending) (w' : World):Prop:=∃ A c,e=.returned (.tuple #[F A m.length c,.bool ok])∧o5 w' w.heap.size A c m∧Below w.heap.size w w'
theorem ug.mk {w w' : World} {m m' : List ByteArray} {ok ok' : Bool} {A:Option Addr} {c n:Nat} (hm:m=m') (ho:ok=ok') (hn:m'.length=n) (h:o5 w' w.heap.size A c m') (hb:Below w.heap.size w w'):ug w m ok (.returned (.tuple #[F A n c,.bool ok'])) w':=by
 subst hm; subst ho; subst hn; exact ⟨A,c,rfl,h,hb⟩
theorem vX (m:List ByteArray) (t:ByteArray):rX m++[xh t]=rX (m++[t]):=by simp [rX]
theorem o5.push {w:World} {B n:Nat} {m:List ByteArray} {t:ByteArray} {v:Value} (h:w.ownsRow B 9 1 v (n+1) (rX m++[xh t])) (hn:m.length=n):∃ A c,v=F A (n+1) c∧o5 w B A c (m++[t]):=by
 obtain ⟨A,c,rfl⟩:=az h
 refine ⟨A,c,rfl, ?_⟩
 unfold o5
 rw [show (m++[t]).length=n+1 by rw [List.length_append,hn]; rfl,← vX]; exact h
theorem vY {w:World} {B:Nat} {e:TypeId} {k:Nat} {v:Value} {n:Nat} {xs:List Value} (h:w.ownsRow B e k v n xs) {g:Nat} (hg:v.ownBlock=some g):∃ cs,ai w g e cs:=by
 obtain ⟨_,⟨h0,_⟩ | ⟨g',cap,cur,hv,_,hh,_⟩⟩:=h
 ·subst h0; cases hg
 ·subst hv; injection hg with hg; subst hg; exact ⟨_,ai.of hh⟩
def tC (w:World) (B:Nat) (A:Option Addr) (c:Nat) (m:List ByteArray):Prop:=o5 w B A c m ∨ (m = []∧c=0∧∃ g,A=some ⟨g,0,none⟩)
theorem tC.below {w w' : World} {B:Nat} {A:Option Addr} {c:Nat} {m:List ByteArray} (h:tC w B A c m) (hb:Below w.heap.size w w'):tC w' B A c m:=by
 rcases h with h | h
 ·exact .inl (ac h hb)
 ·exact .inr h
theorem tC.kept {w w' : World} {B:Nat} {A:Option Addr} {c:Nat} {m:List ByteArray} (h:tC w B A c m) {g:Nat} {t:TypeId} {cs:List Value} (hL:ai w g t cs) (xw:9 ≠ t) (hg:w.grownBy w' (some g)):tC w' B A c m:=by
 rcases h with h | h
 ·exact .inl (ak h hL xw hg)
 ·exact .inr h
structure wP (w:World) (B:Nat) (row:Option Nat):Prop where
 lt:∀ b,row=some b→B≤b∧b < w.heap.size
 far:∀ (g:Nat) (t:TypeId) (cs:List Value),9 ≠ t→ai w g t cs→some g ≠ row
theorem wP.own {w w' : World} {B:Nat} {row:Option Nat} (h:wP w B row) (hg:w.grownBy w' row) {B' : Nat} {e:TypeId} {k:Nat} {v:Value} {n:Nat} {xs:List Value} (ho:w.ownsRow B' e k v n xs) (xw:9 ≠ e):w'.ownsRow B' e k v n xs:=by
 refine ho.kept hg ?_
 cases hv:v.ownBlock with
 | none=>exact .inl rfl
 | some g =>
  obtain ⟨cs,hL⟩:=vY ho hv
  exact .inr (h.far g e cs xw hL)
def eQ (w:World) (n:Nat) (ok:Bool) (e:Ending) (w' : World):Prop:=e=.returned (.tuple #[O U (n:Int),.bool ok])∧Below w.heap.size w w'
theorem eQ.mk {w w' : World} {n n' : Nat} {i:Int} {ok ok' : Bool} (hn:n=n') (hi:(n' : Int)=i) (ho:ok=ok') (hb:Below w.heap.size w w'):eQ w n ok (.returned (.tuple #[O U i,.bool ok'])) w':=by
 subst hn; subst ho; subst hi; exact ⟨rfl,hb⟩
theorem wF:62 ≠ 42:=dD
theorem pR (b:ByteArray):b.toList=bl b:=by
 have h:=wo b b.toList
 rw [beq_self_eq_true] at h
 exact (of_decide_eq_true h.symm).symm
theorem uh {a b:ByteArray} (h:a ≠ b):(a.toList == b.toList)=false:=by
 rw [beq_eq_false_iff_ne]; intro e
 rw [pR,pR] at e
 exact h (dU e)
set_option maxRecDepth 100000 in
theorem jX (n:Int) (l:Lg) (w:World) (hs:l.D.size+l.P.size≤2000000) (Ap:LW w) :
  Calls xi 12 #[O U n,l.val] w (eQ w (mc n l) (ib n l)):=by
 have b0:=bZ w (.cells #[xh l.D,xh l.P,O U l.n] 27)
 have L0:=ai.new w 27 #[xh l.D,xh l.P,O U l.n]
 have Dj:=Ap.then b0
 have NW:=fun W=>nn n W
 have DX:=pO l (iO l)
 have xF:=jZ (fun h=>me (n:=n) h)
 obtain ⟨iR,hiR⟩ : ∃ iR,bX n 1 9999=iR:=⟨_,rfl⟩
 obtain ⟨oR,hoR⟩ : ∃ oR,l.ok=oR:=⟨_,rfl⟩
 obtain ⟨kR,hkR⟩ : ∃ kR,mc n l=kR:=⟨_,rfl⟩
 obtain ⟨bR,hbR⟩ : ∃ bR,ib n l=bR:=⟨_,rfl⟩
 have HB:Hid (bR=(iR && oR)):=by rw [Hid,← hbR,← hiR,← hoR]; rfl
 have HK:Hid (kR=if bR then dX (gZ l) (eU n) Lg.zero 0 else 0):=by rw [Hid,← hkR,← hbR]; rfl
 rw [hkR,hbR]
 rw [hiR] at NW xF
 obtain ⟨y0,Ip⟩ : ∃ y0,eU n=y0:=⟨_,rfl⟩
 rw [Ip] at NW HK xF
 have LG:=fun W hL=>ju l W hs (LW.tab hL)
 rw [hoR] at LG
 clear hiR hkR hbR Ip
 have KP:=jZ hoR
 clear hoR
 go_enter Tryz.func12,Tryz.ntmps12
 go_wp2_with fail
 generalize w.alloc (.cells #[xh l.D,xh l.P,O U l.n] 27)=W at b0 L0 Dj ⊢
 refine (NW W).mono ?_
 rintro e w1 ⟨TA,tc,OA,oc,rfl,yy,yz,xp⟩
 have xo:=(Below.refl w1.heap.size w1).alloc nR (.cells #[F TA y0.t.length tc,F OA y0.o.length oc,O U y0.gt,O U y0.sd,O U y0.ms,xh ⟨#[]⟩,xh ⟨#[]⟩,O U 0] 42)
 have P2:=ai.new w1 42 #[F TA y0.t.length tc,F OA y0.o.length oc,O U y0.gt,O U y0.sd,O U y0.ms,xh ⟨#[]⟩,xh ⟨#[]⟩,O U 0]
 have zk:=av xp xo
 have L2:=L0.below zk L0.lt
 have b2:=b0.trans (zk.mono b0.size)
 have Ag:=ac yy xo
 have Ah:=ac yz xo
 have Gq:=Dj.then zk
 have AL:w.heap.size≤w1.heap.size:=jT b0.size xp.size
 have AB:w.heap.size < w1.heap.size:=jL L0.lt xp.size
 go_upto_region 2 with fail
 generalize w1.alloc (.cells #[F TA y0.t.length tc,F OA y0.o.length oc,O U y0.gt,O U y0.sd,O U y0.ms,xh ⟨#[]⟩,xh ⟨#[]⟩,O U 0] 42)=w2 at P2 L2 b2 Ag Ah Gq ⊢
 clear xo xp zk L0 b0 yy yz NW Dj
 generalize w1.heap.size=gc at P2 AL AB ⊢
 obtain ⟨c0,c1,c2⟩:=cells3 L2
 cases iR
 ·obtain rfl:bR=false:=HB.out
  go_wp2
  refine bodyPost_ret (v:=.tuple #[O U 0,.bool false]) (by simp [results,Tryz.results12,go_sem, *]) rfl (eQ.mk HK.out rfl HB.out b2)
 ·go_wp2_with fail
  refine (LG w2 Gq).mono ?_
  rintro e w3 ⟨rfl,xB⟩
  have L3:=L2.below xB L2.lt
  have P3:=P2.below xB P2.lt
  have b3:=b2.trans (xB.mono b2.size)
  have ye:=ac Ag xB
  have xN:=ac Ah xB
  have zd:=Gq.then xB
  clear L2 P2 b2 Ag Ah xB LG c0 c1 c2 Gq
  cases oR
  ·obtain rfl:bR=false:=HB.out
   go_wp2
   refine bodyPost_ret (v:=.tuple #[O U 0,.bool false]) (by simp [results,Tryz.results12,go_sem, *]) rfl (eQ.mk HK.out rfl HB.out b3)
  ·obtain rfl:bR=true:=HB.out
   obtain ⟨c0,c1,c2⟩:=cells3 L3
   have DN:=xF.out (by trivial)
   have RC:=ly l w3 hs (LW.tab zd)
   go_wp2_with fail
   refine RC.mono ?_
   rintro e w4 ⟨A4,c4,m,rfl,hm,zQ,xy⟩
   rw [rT hm] at zQ ⊢
   have P4:=P3.below xy P3.lt
   have b4:=b3.trans (xy.mono b3.size)
   have xQ:=ac ye xy
   have xL:=ac xN xy
   have h34:=xy.size
   have KQ:=P3.lt
   clear hm RC L3 P3 b3 ye xN xy c0 c1 c2 xF KP zd
   have ES:=jZ (oV l)
   have Iq:gc < w3.heap.size:=KQ
   generalize gZ l=m at DX zQ HK ES ⊢
   have ED:Hid (kR=dX m y0 Lg.zero 0):=HK.out
   have Au:Hid (aQ w4 w4.heap.size (y0.at TA tc OA oc)):=⟨an xQ,an xL⟩
   have BP:Hid (ai w4 gc 42 [F TA y0.t.length tc,F OA y0.o.length oc,O U y0.gt,O U y0.sd,O U y0.ms,xh ⟨#[]⟩,xh ⟨#[]⟩,O U 0]):=P4
   have Ac:Hid (w4.ownsRow w3.heap.size 62 2 (F A4 m.length c4) m.length (m.flatMap dj.enc)):=zQ
   have Ir:Hid (dX (m.drop 0) y0 Lg.zero 0=dX m y0 Lg.zero 0):=rfl
   have zT:Hid (mL (y0.at TA tc OA oc).c Lg.zero=true):=DN
   clear DN zQ P4 xQ xL HK
   go_wp2_with fail
   go_loopw [10,11,12,13,33] (fun _ _ _ _ i wr=>∃ (k:Nat) (X:aN) (l1:Lg),k≤m.length∧i=O U k∧Hid (mL X.c l1=true)∧Hid (aQ wr wr.heap.size X)∧Hid (ai wr gc 42 [F X.TA X.t.length X.tc,F X.OA X.o.length X.oc,O U X.gt,O U X.sd,O U X.ms,xh l1.D,xh l1.P,O U l1.n])∧Hid (wr.ownsRow w3.heap.size 62 2 (F A4 m.length c4) m.length (m.flatMap dj.enc))∧Below w.heap.size w wr∧Hid (dX (m.drop k) X.c l1 k=dX m y0 Lg.zero 0)) (fun _ _ _ _ i _=>m.length - (intOf i).toNat)
   case atStart=>exact ⟨0,y0.at TA tc OA oc,Lg.zero,Nat.zero_le _,rfl,zT,Au,BP,Ac,b4,Ir⟩
   case round =>
    clear b4 Au BP Ac Ir zT
    obtain ⟨k,X,l1,hk,rfl,xF,HX,HL,HR,zc,HG⟩:=hrel
    by_cases xu:k < m.length
    ·have EU:=jz.of HR.out
     obtain ⟨b,off,rfl,hb,hcell⟩:=jz.cells EU oM
     have q0:=fun q=>(hcell k xu q).1
     have q1:=fun q=>(hcell k xu q).2
     have HY:=jZ (fun h=>oT xu (y:=X.c) (l:=l1) (i:=k) h)
     have HN:=jZ (fun h=>pP xu (y:=X.c) (l:=l1) (i:=k) h)
     have AP:=ES.out _ (List.getElem_mem xu)
     obtain ⟨e,Gr⟩ : ∃ e,e=m[k]:=⟨_,rfl⟩
     rw [← Gr] at q0 q1 HY HN AP
     clear Gr hcell EU
     have HS:=mM xF.out
     obtain ⟨CC,CD,KR⟩:=HS
     have L3:=HL.out
     have hX:=HX.out
     have hgL:=L3.lt
     have eT:=ue X l1 e.c
     have eO:=nJ X l1 e.c
     have eL:=nK X l1 e.c
     have DO:=jZ (ma e.c xF.out)
     obtain ⟨rp,It⟩ : ∃ rp,mf X.c l1 e.c=rp:=⟨_,rfl⟩
     obtain ⟨y,hy⟩ : ∃ y,pL X.c l1 e.c=y:=⟨_,rfl⟩
     obtain ⟨l2,yZ⟩ : ∃ l2,nA X.c l1 e.c=l2:=⟨_,rfl⟩
     rw [hy,yZ] at DO HY
     rw [It] at eT HY HN
     rw [hy] at eO
     rw [yZ] at eL
     clear It hy yZ xF HL HX
     have EX:=fun W hW hL=>oP X l1 e.c W hW CC CD KR AP hL
     unfold cz at EX
     rw [eT,eO,eL] at EX
     clear eT eO eL
     have d0:=q0 ⟨wr,Below.refl _ _⟩
     have d1:=q1 ⟨wr,Below.refl _ _⟩
     clear q0 q1
     have xo:=(Below.refl wr.heap.size wr).alloc nR (.cells #[xh e.c,xh e.r] 62)
     have E5:=ai.new wr 62 #[xh e.c,xh e.r]
     have L5:=L3.below xo L3.lt
     have R5:=ac HR.out xo
     have En:=hX.then xo
     have b5:=zc.trans (xo.mono zc.size)
     have hgB:gc < w3.heap.size:=Iq
     go_upto_region 8 with fail
     generalize wr.alloc (.cells #[xh e.c,xh e.r] 62)=w5 at xo E5 L5 R5 En b5 ⊢
     clear xo L3 hX HR zc d0 d1
     generalize wr.heap.size=ge at E5 ⊢
     obtain ⟨z0,z1,z2,z3,z4,z5,z6,z7⟩:=cells8 L5
     obtain ⟨d0,d1⟩:=cells2 E5
     go_wp2_with fail
     refine (EX w5 En (Ap.then b5)).mono ?_
     rintro en w6 ⟨v,rfl,⟨TB,tb,OB,ob,rfl,Hb,Hc⟩,xT⟩
     have xo:=(Below.refl w6.heap.size w6).alloc nR (.cells #[F TB y.t.length tb,F OB y.o.length ob,O U y.gt,O U y.sd,O U y.ms,xh l2.D,xh l2.P,O U l2.n] 42)
     have N7:=ai.new w6 42 #[F TB y.t.length tb,F OB y.o.length ob,O U y.gt,O U y.sd,O U y.ms,xh l2.D,xh l2.P,O U l2.n]
     have DP:=av xT xo
     have L7:=L5.below DP L5.lt
     have E7:=E5.below DP E5.lt
     have R7:=ac R5 DP
     have CA:=ac Hb xo
     have BJ:=ac Hc xo
     have b7:=b5.trans (DP.mono b5.size)
     have NI:w5.heap.size≤w6.heap.size:=xT.size
     have hgL5:=L5.lt
     go_upto_region 9 with fail
     generalize w6.alloc (.cells #[F TB y.t.length tb,F OB y.o.length ob,O U y.gt,O U y.sd,O U y.ms,xh l2.D,xh l2.P,O U l2.n] 42)=w7 at xo N7 L7 E7 R7 CA BJ b7 ⊢
     clear xo DP xT Hb Hc L5 E5 R5 En b5 EX z0 z1 z2 z3 z4 z5 z6 z7 d0 d1
     generalize w6.heap.size=gn at N7 NI ⊢
     obtain ⟨d0,d1⟩:=cells2 E7
     by_cases CO:rp=e.r
     ·have xw:(rp.toList != e.r.toList)=false:=by rw [CO]; simp
      have NJ:=jZ (HY.out CO)
      have KS:(e.r.toList != e.r.toList)=false:=sP
      clear HN HY
      subst CO
      obtain ⟨z0,z1,z2,z3,z4,z5,z6,z7⟩:=cells8 L7
      obtain ⟨f0,f1,f2,f3,f4,f5,f6,f7⟩:=frz8 L7
      obtain ⟨p0,p1,p2,p3,p4,p5,p6,p7⟩:=cells8 N7
      obtain ⟨W8,Cr,N8,b8,gr8⟩:=vW (g:=gc) L7 b7 AL (F TB y.t.length tb) (F OB y.o.length ob) (O U y.gt) (O U y.sd) (O U y.ms) (xh l2.D) (xh l2.P) (O U l2.n)
      have R8:=ak R7 L7 wF gr8
      have zA:=ak CA L7 eZ gr8
      have xI:=ak BJ L7 fa gr8
      have h5:Hid (aQ W8 W8.heap.size (y.at TB tb OB ob)):=⟨an zA,an xI⟩
      have h6:=jZ N8
      have h7:=jZ R8
      clear N8 R8 zA xI gr8 L7 E7 R7 CA BJ N7
      go_upto_region 12 with fail
      rw [Cr.out]
      clear z0 z1 z2 z3 z4 z5 z6 z7 f0 f1 f2 f3 f4 f5 f6 f7 p0 p1 p2 p3 p4 p5 p6 p7 d0 d1 Cr
      go_wp2
      go_roundw
      case rel=>exact ⟨k+1,y.at TB tb OB ob,l2,oM,by go_num,DO,h5,h6,h7,b8,by rw [Hid,← HG.out,NJ.out]; rfl⟩
      case measure=>simp [intOf]; omega
     ·have xw:=uh CO
      have KT:(rp.toList != e.r.toList)=true:=by unfold bne; rw [xw]; rfl
      have FX:Hid (kR=k):=by rw [Hid,ED.out,← HG.out,HN.out CO]
      clear HN HY CO
      go_wp2
      refine bodyPost_ret (v:=.tuple #[O U k,.bool true]) (by simp [results,Tryz.results12,go_sem, *]) rfl (eQ.mk FX.out rfl rfl b7)
    ·have zK:m.drop k = []:=List.drop_eq_nil_of_le oM
     have HG':=HG.out
     rw [zK,dX] at HG'
     have FX:Hid (kR=k):=by rw [Hid,ED.out,← HG']
     have Iu:k=m.length:=oM
     have KU:Hid ((k:Int)=(m.length:Int)):=by rw [Hid,Iu]
     clear zK HG' HG Iu
     go_wp2
     refine bodyPost_ret (v:=.tuple #[O U m.length,.bool true]) (by simp [results,Tryz.results12,go_sem, *]) rfl (eQ.mk FX.out KU.out rfl zc)
set_option maxRecDepth 100000 in
theorem qC (n:Int) (l:Lg) (w:World) (hs:l.D.size+l.P.size≤2000000) :
  Calls xi 10 #[O U n,l.val] w (eQ w (mc n l) (ib n l)):=by
 have b0:=bZ w (.cells #[xh l.D,xh l.P,O U l.n] 27)
 have L0:=ai.new w 27 #[xh l.D,xh l.P,O U l.n]
 have NW:=fun W=>kz n W
 have DX:=pO l (iO l)
 have xF:=jZ (fun h=>me (n:=n) h)
 obtain ⟨iR,hiR⟩ : ∃ iR,bX n 1 9999=iR:=⟨_,rfl⟩
 obtain ⟨oR,hoR⟩ : ∃ oR,l.ok=oR:=⟨_,rfl⟩
 obtain ⟨kR,hkR⟩ : ∃ kR,mc n l=kR:=⟨_,rfl⟩
 obtain ⟨bR,hbR⟩ : ∃ bR,ib n l=bR:=⟨_,rfl⟩
 have HB:Hid (bR=(iR && oR)):=by rw [Hid,← hbR,← hiR,← hoR]; rfl
 have HK:Hid (kR=if bR then dX (gZ l) (eU n) Lg.zero 0 else 0):=by rw [Hid,← hkR,← hbR]; rfl
 rw [hkR,hbR]
 rw [hiR] at NW xF
 obtain ⟨y0,Ip⟩ : ∃ y0,eU n=y0:=⟨_,rfl⟩
 rw [Ip] at NW HK xF
 have LG:=fun W=>iD l W hs
 rw [hoR] at LG
 clear hiR hkR hbR Ip
 have KP:=jZ hoR
 clear hoR
 go_enter Tryz.func10,Tryz.ntmps10
 go_wp2_with fail
 generalize w.alloc (.cells #[xh l.D,xh l.P,O U l.n] 27)=W at b0 L0 ⊢
 refine (NW W).mono ?_
 rintro e w1 ⟨TA,tc,OA,oc,rfl,yy,yz,xp⟩
 have xo:=(Below.refl w1.heap.size w1).alloc nR (.cells #[F TA y0.t.length tc,F OA y0.o.length oc,O U y0.gt,O U y0.sd,O U y0.ms,xh ⟨#[]⟩,xh ⟨#[]⟩,O U 0] 42)
 have P2:=ai.new w1 42 #[F TA y0.t.length tc,F OA y0.o.length oc,O U y0.gt,O U y0.sd,O U y0.ms,xh ⟨#[]⟩,xh ⟨#[]⟩,O U 0]
 have zk:=av xp xo
 have L2:=L0.below zk L0.lt
 have b2:=b0.trans (zk.mono b0.size)
 have Ag:=ac yy xo
 have Ah:=ac yz xo
 have AL:w.heap.size≤w1.heap.size:=jT b0.size xp.size
 have AB:w.heap.size < w1.heap.size:=jL L0.lt xp.size
 go_upto_region 2 with fail
 generalize w1.alloc (.cells #[F TA y0.t.length tc,F OA y0.o.length oc,O U y0.gt,O U y0.sd,O U y0.ms,xh ⟨#[]⟩,xh ⟨#[]⟩,O U 0] 42)=w2 at P2 L2 b2 Ag Ah ⊢
 clear xo xp zk L0 b0 yy yz NW
 generalize w1.heap.size=gc at P2 AL AB ⊢
 obtain ⟨c0,c1,c2⟩:=cells3 L2
 cases iR
 ·obtain rfl:bR=false:=HB.out
  go_wp2
  refine bodyPost_ret (v:=.tuple #[O U 0,.bool false]) (by simp [results,Tryz.results10,go_sem, *]) rfl (eQ.mk HK.out rfl HB.out b2)
 ·go_wp2_with fail
  refine (LG w2).mono ?_
  rintro e w3 ⟨rfl,xB⟩
  have L3:=L2.below xB L2.lt
  have P3:=P2.below xB P2.lt
  have b3:=b2.trans (xB.mono b2.size)
  have ye:=ac Ag xB
  have xN:=ac Ah xB
  clear L2 P2 b2 Ag Ah xB LG c0 c1 c2
  cases oR
  ·obtain rfl:bR=false:=HB.out
   go_wp2
   refine bodyPost_ret (v:=.tuple #[O U 0,.bool false]) (by simp [results,Tryz.results10,go_sem, *]) rfl (eQ.mk HK.out rfl HB.out b3)
  ·obtain rfl:bR=true:=HB.out
   obtain ⟨c0,c1,c2⟩:=cells3 L3
   have DN:=xF.out (by trivial)
   have RC:=lw l w3 hs
   go_wp2_with fail
   refine RC.mono ?_
   rintro e w4 ⟨A4,c4,m,rfl,hm,zQ,xy⟩
   rw [rT hm] at zQ ⊢
   have P4:=P3.below xy P3.lt
   have b4:=b3.trans (xy.mono b3.size)
   have xQ:=ac ye xy
   have xL:=ac xN xy
   have h34:=xy.size
   have KQ:=P3.lt
   clear hm RC L3 P3 b3 ye xN xy c0 c1 c2 xF KP
   have ES:=jZ (oV l)
   have Iq:gc < w3.heap.size:=KQ
   generalize gZ l=m at DX zQ HK ES ⊢
   have ED:Hid (kR=dX m y0 Lg.zero 0):=HK.out
   have Au:Hid (aQ w4 w4.heap.size (y0.at TA tc OA oc)):=⟨an xQ,an xL⟩
   have BP:Hid (ai w4 gc 42 [F TA y0.t.length tc,F OA y0.o.length oc,O U y0.gt,O U y0.sd,O U y0.ms,xh ⟨#[]⟩,xh ⟨#[]⟩,O U 0]):=P4
   have Ac:Hid (w4.ownsRow w3.heap.size 62 2 (F A4 m.length c4) m.length (m.flatMap dj.enc)):=zQ
   have Ir:Hid (dX (m.drop 0) y0 Lg.zero 0=dX m y0 Lg.zero 0):=rfl
   have zT:Hid (mL (y0.at TA tc OA oc).c Lg.zero=true):=DN
   clear DN zQ P4 xQ xL HK
   go_wp2_with fail
   go_loopw [10,11] (fun _ i wr=>∃ (k:Nat) (X:aN) (l1:Lg),k≤m.length∧i=O U k∧Hid (mL X.c l1=true)∧Hid (aQ wr wr.heap.size X)∧Hid (ai wr gc 42 [F X.TA X.t.length X.tc,F X.OA X.o.length X.oc,O U X.gt,O U X.sd,O U X.ms,xh l1.D,xh l1.P,O U l1.n])∧Hid (wr.ownsRow w3.heap.size 62 2 (F A4 m.length c4) m.length (m.flatMap dj.enc))∧Below w.heap.size w wr∧Hid (dX (m.drop k) X.c l1 k=dX m y0 Lg.zero 0)) (fun _ i _=>m.length - (intOf i).toNat)
   case atStart=>exact ⟨0,y0.at TA tc OA oc,Lg.zero,Nat.zero_le _,rfl,zT,Au,BP,Ac,b4,Ir⟩
   case round =>
    clear b4 Au BP Ac Ir zT
    obtain ⟨k,X,l1,hk,rfl,xF,HX,HL,HR,zc,HG⟩:=hrel
    by_cases xu:k < m.length
    ·have EU:=jz.of HR.out
     obtain ⟨b,off,rfl,hb,hcell⟩:=jz.cells EU oM
     have q0:=fun q=>(hcell k xu q).1
     have q1:=fun q=>(hcell k xu q).2
     have HY:=jZ (fun h=>oT xu (y:=X.c) (l:=l1) (i:=k) h)
     have HN:=jZ (fun h=>pP xu (y:=X.c) (l:=l1) (i:=k) h)
     have AP:=ES.out _ (List.getElem_mem xu)
     obtain ⟨e,Gr⟩ : ∃ e,e=m[k]:=⟨_,rfl⟩
     rw [← Gr] at q0 q1 HY HN AP
     have KV:=jZ Gr
     clear Gr hcell EU
     have HS:=mM xF.out
     obtain ⟨CC,CD,KR⟩:=HS
     have L3:=HL.out
     have hX:=HX.out
     have hgL:=L3.lt
     have eT:=ue X l1 e.c
     have eO:=nJ X l1 e.c
     have eL:=nK X l1 e.c
     have DO:=jZ (ma e.c xF.out)
     obtain ⟨rp,It⟩ : ∃ rp,mf X.c l1 e.c=rp:=⟨_,rfl⟩
     obtain ⟨y,hy⟩ : ∃ y,pL X.c l1 e.c=y:=⟨_,rfl⟩
     obtain ⟨l2,yZ⟩ : ∃ l2,nA X.c l1 e.c=l2:=⟨_,rfl⟩
     rw [hy,yZ] at DO HY
     rw [It] at eT HY HN
     rw [hy] at eO
     rw [yZ] at eL
     clear It hy yZ xF HL HX
     have EXc:=jZ (fun W hW=>ls X l1 e.c W hW CC CD KR AP)
     have NK:=jZ eT
     have HY2':=jZ eO
     have NL:=jZ eL
     clear eT eO eL
     go_upto_region 9 with fail
     refine al (Sw 10 (fun W9=>Below wr.heap.size wr W9) (fun W9=>∃ TB tb OB ob,Below w.heap.size w W9∧ai W9 gc 42 [F TB y.t.length tb,F OB y.o.length ob,O U y.gt,O U y.sd,O U y.ms,xh l2.D,xh l2.P,O U l2.n]∧W9.ownsRow wr.heap.size 104 2 (F TB y.t.length tb) y.t.length (y.t.flatMap ar.enc)∧W9.ownsRow wr.heap.size 147 3 (F OB y.o.length ob) y.o.length (y.o.flatMap ae.enc)∧W9.ownsRow w3.heap.size 62 2 (F (some ⟨b,off,none⟩) m.length c4) m.length (m.flatMap dj.enc))) (fun i w1 w2=>i ∉ [10]→Below w1.heap.size w1 w2) kZ kZ kZ (Sw.start jB.drew) ?_
     simp only [ax,Act.put,sA,gs0,gs1,Nat.zero_add,Nat.reduceAdd]
     refine aa _ (vb0C8 L3) ?_
     refine aa _ vb0 ?_
     refine aa _ vb0 ?_
     refine aa _ (vb2 1 2) ?_
     refine aa _ (vb1 3) ?_
     apply aa
     case h1 =>
      intro vs L9 w9 xl xj hB K9 xk
      replace xj:=sb xj xl
      have d4:=fe hB 4
      simp only [d4] at xk ⊢
      have q9:=q0 ⟨w9,xj⟩
      simp only [Act.put,sA,gs0,gs1] at xk
      go_simp
      exact xk _ _ rfl (sy xl xj) bR
     refine sm [10] (fun v w9=>∃ TB tb OB ob,v=.tuple #[.agg #[F TB y.t.length tb,F OB y.o.length ob,O U y.gt,O U y.sd,O U y.ms,xh l2.D,xh l2.P,O U l2.n],xh rp]∧w9.ownsRow wr.heap.size 104 2 (F TB y.t.length tb) y.t.length (y.t.flatMap ar.enc)∧w9.ownsRow wr.heap.size 147 3 (F OB y.o.length ob) y.o.length (y.o.flatMap ae.enc)) (fun vs L9 w9 xl xj hB K9 xk=>?_) ?_
     next =>
      replace xj:=sb xj xl
      have d0:=fe hB 0
      have d5:=fe hB 5
      simp only [d0,d5] at xk ⊢
      simp only [Act.put,sA,gs0,gs1] at xk
      go_simp
      refine (EXc.out w9 (hX.then xj)).mono ?_
      rintro en w8 ⟨v,rfl,⟨TB,tb,OB,ob,rfl,h1,h2⟩,xm⟩
      simp only [NK.out,HY2'.out,NL.out] at h1 h2 ⊢
      exact xk _ _ _ rfl ⟨TB,tb,OB,ob,rfl,ag h1 xj.size,ag h2 xj.size⟩ (Sw.stay xl kZ dD (xj.trans (xm.mono xj.size))) (fun _=>xm)
     refine pm0 [] 6 (fun u v _=>v=u∧∃ a:Value,u=.tuple #[a,xh rp]) (fun vs L9 w9 xl xj hB K9 xk=>?_) ?_
     next =>
      replace xj:=sb xj xl
      obtain ⟨TB,tb,OB,ob,e0,h1,h2⟩:=fs hB 6
      simp only [e0] at xk ⊢
      go_simp
      exact xk _ _ _ rfl ⟨rfl,_,rfl⟩ (sy xl xj) bR
     refine sm [10] (fun v w9=>∃ TB tb OB ob,v=.agg #[F TB y.t.length tb,F OB y.o.length ob,O U y.gt,O U y.sd,O U y.ms,xh l2.D,xh l2.P,O U l2.n]∧w9.ownsRow wr.heap.size 104 2 (F TB y.t.length tb) y.t.length (y.t.flatMap ar.enc)∧w9.ownsRow wr.heap.size 147 3 (F OB y.o.length ob) y.o.length (y.o.flatMap ae.enc)) (fun vs L9 w9 xl xj hB K9 xk=>?_) ?_
     next =>
      replace xj:=sb xj xl
      simp only [Act.put,sA,gs0,gs1] at xk
      obtain ⟨TB,tb,OB,ob,e0,h1,h2⟩:=fs hB 6
      simp only [e0] at xk ⊢
      obtain ⟨e6,_⟩:=fs hB 7
      simp only [e6,e0] at xk ⊢
      go_simp
      exact xk _ _ _ rfl ⟨TB,tb,OB,ob,rfl,h1,h2⟩ (sy xl xj) bR
     refine aa (xh rp) (fun vs L9 w9 xl xj hB K9 xk=>?_) ?_
     next =>
      simp only [Act.put,sA,gs0,gs1] at xk
      obtain ⟨e6,a,e5⟩:=fs hB 7
      simp only [e6,e5] at xk ⊢
      go_simp
      exact xk _ _ rfl (Sw.both dD (fun h=>h) (fun h=>h) xj) bR
     refine aa (undef) (fun vs L9 w9 xl xj hB K9 xk=>?_) ?_
     next =>
      replace xj:=xj.here xl
      obtain ⟨TB,tb,OB,ob,e0,h1,h2⟩:=fs hB 8
      simp only [e0] at xk ⊢
      have L4:=L3.below xj L3.lt
      obtain ⟨z0,z1,z2,z3,z4,z5,z6,z7⟩:=cells8 L4
      obtain ⟨f0,f1,f2,f3,f4,f5,f6,f7⟩:=frz8 L4
      have xy:=zc.trans (xj.mono zc.size)
      obtain ⟨W5,AZ,N5,b5,gr5⟩:=vW (g:=gc) L4 xy AL (F TB y.t.length tb) (F OB y.o.length ob) (O U y.gt) (O U y.sd) (O U y.ms) (xh l2.D) (xh l2.P) (O U l2.n)
      have Jk:=jZ (ak (ac HR.out xj) L4 wF gr5)
      have yV:=jZ (ak h1 L4 eZ gr5)
      have NM:=jZ (ak h2 L4 fa gr5)
      have NN:=jZ N5
      have KW:=jZ b5
      clear N5 b5 gr5 h1 h2 L4 xy
      go_simp
      rw [AZ.out]
      exact xk _ _ rfl (Sw.turn ⟨TB,tb,OB,ob,KW.out,NN.out,yV.out,NM.out,Jk.out⟩) nq
     refine aa _ (va1 9) ?_
     refine au fun vs L9 w9 xv xj hB=>?_
     replace xj:=xj.done xv dD
     obtain ⟨TB,tb,OB,ob,b7,N7,CA,BJ,R7⟩:=xj
     have d11:=ah.eq (hB 11 _ rfl rfl dD)
     simp only [d11]
     clear hB d11 hX L3 hgL HR zc
     obtain ⟨w7,h79⟩ : ∃ z,z=w9:=⟨_,rfl⟩
     subst h79
     have EU:=jz.of R7
     obtain ⟨b',off',FY,hb',hcell⟩:=jz.cells EU oM
     injection FY with FY
     injection FY with e1 e2
     subst e1; subst e2
     have d1:=(hcell k xu ⟨w7,Below.refl _ _⟩).2
     have NO:Hid (e=m[k]):=KV
     rw [← NO.out] at d1
     clear hcell EU q0 q1
     have h5:Hid (aQ w7 w7.heap.size (y.at TB tb OB ob)):=⟨an CA,an BJ⟩
     have h6:=jZ N7
     have h7:=jZ R7
     clear N7 R7 CA BJ
     by_cases CO:rp=e.r
     ·have xw:(rp.toList != e.r.toList)=false:=by rw [CO]; simp
      have NP:=jZ (HY.out CO)
      have KS:(e.r.toList != e.r.toList)=false:=sP
      clear HN HY
      subst CO
      go_wp2
      go_roundw
      case rel=>exact ⟨k+1,y.at TB tb OB ob,l2,oM,by go_num,DO,h5,h6,h7,b7,by rw [Hid,← HG.out,NP.out]; rfl⟩
      case measure=>simp [intOf]; omega
     ·have xw:=uh CO
      have KT:(rp.toList != e.r.toList)=true:=by unfold bne; rw [xw]; rfl
      have FX:Hid (kR=k):=by rw [Hid,ED.out,← HG.out,HN.out CO]
      clear HN HY CO
      go_wp2
      refine bodyPost_ret (v:=.tuple #[O U k,.bool true]) (by simp [results,Tryz.results10,go_sem, *]) rfl (eQ.mk FX.out rfl rfl b7)
    ·have zK:m.drop k = []:=List.drop_eq_nil_of_le oM
     have HG':=HG.out
     rw [zK,dX] at HG'
     have FX:Hid (kR=k):=by rw [Hid,ED.out,← HG']
     have Iu:k=m.length:=oM
     have KU:Hid ((k:Int)=(m.length:Int)):=by rw [Hid,Iu]
     clear zK HG' HG Iu
     go_wp2
     refine bodyPost_ret (v:=.tuple #[O U m.length,.bool true]) (by simp [results,Tryz.results10,go_sem, *]) rfl (eQ.mk FX.out KU.out rfl zc)
end Go.Proofs.YtoeoimhemojdeaaGreatDoor
