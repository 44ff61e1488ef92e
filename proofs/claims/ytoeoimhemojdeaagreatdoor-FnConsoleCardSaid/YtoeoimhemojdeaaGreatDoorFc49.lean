/- Lemmas. -/
import Derived.Deep.CutBlock
import Derived.Test.YtoeoimhemojdeaaGreatDoorFc27
import Derived.Test.YtoeoimhemojdeaaGreatDoorFc48

set_option linter.unusedVariables false
set_option linter.unusedSimpArgs false
set_option maxHeartbeats 8000000
open Go.Value renaming int → O, slice → F, string → vw
open Go.IntKind renaming i64 → U
open Go.Proofs.Tryz renaming prog → vx

namespace Go.Proofs.YtoeoimhemojdeaaGreatDoor
open Go.RowKit
def CS (y:Oc) (l:Lg):Prop:=uE y∧(y.t.length≤20∧y.o.length≤20)∧vf l
theorem vd {y:Oc} {l:Lg} (h:oS y l=true):CS y l:=by
 obtain ⟨h1,h2⟩:=fW.1 h
 have G:=bi.1 (show an (y.at none 0 none 0)=true from h1)
 have g1:y.t.length≤8:=G.tl
 have g2:y.o.length≤8:=G.ol
 obtain ⟨q1,_,q3⟩:=bY.1 h2
 have hs:=eX q1
 have hl:=cF 60 0 (bl l.D++bl l.P)
 rw [ao,ao] at hs
 exact ⟨nj h1,⟨oM,oM⟩,oM,oM,oM⟩
theorem iv.grown {W W' : World} {B g:Nat} {y:Oc} {l:Lg} {v:Value} (h:iv W B y l v) (hg:W.grownBy W' (some g)) (hB:g < B):iv W' B y l v:=by
 obtain ⟨TA,tc,OA,oc,e,h1,h2⟩:=h
 exact ⟨TA,tc,OA,oc,e,ch h1 hg hB,ch h2 hg hB⟩
theorem di.grown {W W' : World} {B g h:Nat} {y:Oc} {l:Lg} (hI:di W B h y l) (hg:W.grownBy W' (some g)) (hB:g < B) (vJ:g ≠ h):di W' B h y l:=by
 obtain ⟨TA,tc,OA,oc,hL,h1,h2⟩:=hI
 exact ⟨TA,tc,OA,oc,hL.kept hg (by intro e; injection e with e; exact vJ e.symm),ch h1 hg hB,ch h2 hg hB⟩
structure CQ (w W wx:World) (g:Nat) (A:Option Addr) (bs:List UInt8) (cap m gc:Nat) (y:Oc) (l:Lg):Prop where
 env:eR w wx g A bs cap m
 out:ah wx W.heap.size 42 [F none 0 0,F none 0 0,O U 0,O U 0,O U 0,vw ⟨#[]⟩,vw ⟨#[]⟩,O U 0]
 con:di wx W.heap.size gc y l
 gr:W.grownBy wx (some g)
 l1:W.heap.size < gc
 lt:g < W.heap.size
 ww:w.heap.size≤W.heap.size
section
variable {w W wx wy:World} {g:Nat} {A:Option Addr} {bs:List UInt8} {cap m m' gc:Nat} {y:Oc} {l:Lg}
theorem CQ.mono (h:CQ w W wx g A bs cap m gc y l) (hm:m≤m'):CQ w W wx g A bs cap m' gc y l:={ h with env:=h.env.mono hm }
theorem CQ.next (h:CQ w W wx g A bs cap m gc y l) (E:eR w wy g A bs cap m') (hg:wx.grownBy wy (some g)):CQ w W wy g A bs cap m' gc y l :=
 ⟨E,h.out.kept hg (by intro e; injection e; have:=h.lt; omega),h.con.grown hg h.lt (by have:=h.lt; have:=h.l1; omega),aB h.gr hg,h.l1,h.lt,h.ww⟩
theorem CQ.setLog (h:CQ w W wx g A bs cap m gc y l) (l2:Lg):CQ w W (((wx.setCell ⟨gc,5,none⟩ (vw l2.D)).setCell ⟨gc,6,none⟩ (vw l2.P)).setCell ⟨gc,7,none⟩ (O U l2.n)) g A bs cap m gc y l2:=by
 obtain ⟨TA,tc,OA,oc,K,hT,hO⟩:=h.con
 have hg:=(ab (g:=gc) (i:=7) (u:=O U l2.n) (ab (g:=gc) (i:=6) (u:=vw l2.P) (ab (g:=gc) (i:=5) (u:=vw l2.D) (World.grownBy.refl wx (some gc)))))
 have l1:=h.l1
 have lt:=h.lt
 have ww:=h.ww
 exact ⟨h.env.wrote hg oM oM,h.out.kept hg iE,⟨TA,tc,OA,oc,((K.set 5 _).set 6 _).set 7 _,ak hT K ft hg,ak hO K fu hg⟩,bj h.gr hg oM,l1,lt,ww⟩
theorem CQ.below (h:CQ w W wx g A bs cap m gc y l) (hb:Below wx.heap.size wx wy):CQ w W wy g A bs cap m gc y l:=h.next (h.env.below hb) (cl hb _)
end
set_option maxRecDepth 100000 in
theorem qN (g:Nat) (A:Option Addr) (bs:List UInt8) (cap m:Nat) (w W:World) (hm:m≤500000000) (E0:eR w W g A bs cap m) :
  Calls vx 61 #[.pointer (some ⟨g,0,none⟩)] W fun e w'=>∃ (y:Oc) (l:Lg) (v:Value),e=.returned v∧iv w' W.heap.size y l v∧CS y l∧eR w w' g A bs cap (m+130000)∧W.grownBy w' (some g):=by
 have hgB:=E0.lt
 have hwW:=E0.gr.size
 have L2:=ah.new W 42 #[F none 0 0,F none 0 0,O U 0,O U 0,O U 0,vw ⟨#[]⟩,vw ⟨#[]⟩,O U 0]
 have E2:=E0.alloc (.cells #[F none 0 0,F none 0 0,O U 0,O U 0,O U 0,vw ⟨#[]⟩,vw ⟨#[]⟩,O U 0] 42)
 have G2:W.grownBy (W.alloc (.cells #[F none 0 0,F none 0 0,O U 0,O U 0,O U 0,vw ⟨#[]⟩,vw ⟨#[]⟩,O U 0] 42)) (some g):=World.grownBy_alloc _ _ _
 have wH:W.heap.size < (W.alloc (.cells #[F none 0 0,F none 0 0,O U 0,O U 0,O U 0,vw ⟨#[]⟩,vw ⟨#[]⟩,O U 0] 42)).heap.size:=sP
 clear E0
 go_enter Tryz.func61,Tryz.ntmps61
 go_wp2_with fail
 generalize (W.alloc (.cells #[F none 0 0,F none 0 0,O U 0,O U 0,O U 0,vw ⟨#[]⟩,vw ⟨#[]⟩,O U 0] 42))=W1 at L2 E2 G2 wH ⊢
 refine (qh g A bs cap m w W1 oM E2).mono ?_
 rintro e W2 ⟨y,v,rfl,⟨TA,tc,OA,oc,rfl,hT,hO⟩,Jw,zQ,E3,gr3⟩
 have L3:=L2.kept gr3 iE
 have G3:=aB G2 gr3
 have AD:=gr3.size
 have hT:=ai hT (Nat.le_of_lt wH)
 have hO:=ai hO (Nat.le_of_lt wH)
 clear gr3 E2 L2 G2
 have Q:CQ w W (W2.alloc (.cells #[F TA y.t.length tc,F OA y.o.length oc,O U y.gt,O U y.sd,O U y.ms,vw ⟨#[]⟩,vw ⟨#[]⟩,O U 0] 42)) g A bs cap (m+100000) W2.heap.size y ⟨⟨#[]⟩,⟨#[]⟩,0⟩:=⟨E3.alloc _,L3.alloc _,⟨TA,tc,OA,oc,ah.new W2 _ _,hT.alloc _,hO.alloc _⟩,dt G3 _,oM,hgB,hwW⟩
 have zl:Hid (CS y ⟨⟨#[]⟩,⟨#[]⟩,0⟩):=⟨zQ,Jw,dD,dD,dD⟩
 clear hT hO zQ Jw E3 L3 G3
 go_wp2_with fail
 generalize (W2.alloc (.cells #[F TA y.t.length tc,F OA y.o.length oc,O U y.gt,O U y.sd,O U y.ms,vw ⟨#[]⟩,vw ⟨#[]⟩,O U 0] 42))=W3 at Q ⊢
 generalize W2.heap.size=gc at Q ⊢
 have l1:=Q.l1
 refine (dJ Q.env 7 oM oM).mono ?_
 rintro e W4 ⟨n,rfl,hn,E4,gr4⟩
 have HQ:=jZ (Q.next E4 gr4)
 clear Q E4 gr4 AD wH
 go_upto_block 0 with fail
 go_cut [] (fun wx=>∃ (y:Oc) (l:Lg),CS y l∧CQ w W wx g A bs cap (m+120000) gc y l)
 case first =>
  go_wp2_with fail
  go_loopw [4] (fun i wr=>∃ (k:Nat) (y:Oc) (l:Lg),k≤6∧i=O U k∧Hid (CS y l)∧Hid (CQ w W wr g A bs cap (m+100100+2100 * (7 - k)) gc y l)) (fun i _=>(intOf i).toNat)
  case atStart=>exact ⟨n,y,⟨⟨#[]⟩,⟨#[]⟩,0⟩,oM,rfl,zl,HQ.out.mono oM⟩
  case round =>
   clear HQ zl hn
   obtain ⟨k,y,l,hk,rfl,zl,HQ⟩:=hrel
   by_cases vH:0 < k
   ·have hlt' : (0:Int) < k:=oM
    have St:=HQ.out
    obtain ⟨TA,tc,OA,oc,K3,hT,hO⟩:=St.con
    obtain ⟨y7,⟨Hl,Hm⟩,Bq,_,_⟩:=zl.out
    have zN:=jZ y7
    clear y7
    obtain ⟨c0,c1,c2,c3,c4,c5,c6,c7⟩:=cells8 K3
    go_wp2_with fail
    refine (fI (y.at TA tc OA oc) l wr ⟨ay hT,ay hO⟩ oM).mono ?_
    rintro e w1 ⟨rfl,hb⟩
    have DU:Hid (oS y l=dV (y.at TA tc OA oc) l):=(uP (y.at TA tc OA oc) l).symm
    obtain ⟨bb,xy⟩ : ∃ bb,dV (y.at TA tc OA oc) l=bb:=⟨_,rfl⟩
    rw [xy] at DU ⊢
    clear xy
    replace St:=St.below hb
    replace hT:=ac hT hb
    replace hO:=ac hO hb
    replace K3:=K3.below hb K3.lt
    clear hb HQ c0 c1 c2 c3 c4 c5 c6 c7
    cases bb
    ·go_wp2_with fail
     go_meet
     case rel=>exact ⟨y,l,zl.out,St.mono oM⟩
    have vY:=DU
    clear DU
    have Fa:(y.at TA tc OA oc).t.length≤100000:=by show y.t.length≤_; omega
    have Lf:(y.at TA tc OA oc).o.length≤100000:=by show y.o.length≤_; omega
    have zo:Hid (∀ b,Value.ownBlock (F TA y.t.length tc)=some b→b ∉ [g,gc]):=by
     intro b hb hm; simp only [mC,mN,oF] at hm
     have:=(hT.lt b hb).1
     rcases hm with rfl | rfl; omega; exact bv hT K3 ft hb.symm
    have Dn:Hid (∀ b,Value.ownBlock (F OA y.o.length oc)=some b→b ∉ [g,gc]):=by
     intro b hb hm; simp only [mC,mN,oF] at hm
     have:=(hO.lt b hb).1
     rcases hm with rfl | rfl; omega; exact bv hO K3 fu hb.symm
    have Bz:Hid (∀ p ∈ [bU.lies 8 gc 42 [F TA y.t.length tc,F OA y.o.length oc,O U y.gt,O U y.sd,O U y.ms,vw l.D,vw l.P,O U l.n]],p.blk ≠ some g∧p.P w1):=by
     intro p hp; simp only [List.mem_singleton] at hp; subst hp; exact ⟨by intro e; injection e; omega,K3⟩
    have Gb:=St.gr.size
    have vO:=K3.lt
    go_wp2_with fail
    refine al (Dr w w1 g A bs cap (m+100100+2100 * (7 - k)) 210 9 [g,gc] [bU.lies 8 gc 42 [F TA y.t.length tc,F OA y.o.length oc,O U y.gt,O U y.sd,O U y.ms,vw l.D,vw l.P,O U l.n]]) (fun i w1 w2=>i ∉ [8]→w1.grownBy w2 (some g)) kZ kZ kZ (Dr.start St.env Bz.out) ?_
    simp only [aw,Act.put,sA,gs0,gs1,Nat.zero_add,Nat.reduceAdd]
    apply aa
    case h1 =>
     intro vs L9 w9 vA vy hB K9 vz
     have q0:w9.cell? ⟨gc,0,none⟩=some (F TA y.t.length tc):=((vy.room (bU.lies 8 gc 42 [F TA y.t.length tc,F OA y.o.length oc,O U y.gt,O U y.sd,O U y.ms,vw l.D,vw l.P,O U l.n]) sP).2 (vA.open_ 8 kZ)).cell 0
     have q1:w9.cell? ⟨gc,1,none⟩=some (F OA y.o.length oc):=((vy.room (bU.lies 8 gc 42 [F TA y.t.length tc,F OA y.o.length oc,O U y.gt,O U y.sd,O U y.ms,vw l.D,vw l.P,O U l.n]) sP).2 (vA.open_ 8 kZ)).cell 1
     have q2:w9.cell? ⟨gc,2,none⟩=some (O U y.gt):=((vy.room (bU.lies 8 gc 42 [F TA y.t.length tc,F OA y.o.length oc,O U y.gt,O U y.sd,O U y.ms,vw l.D,vw l.P,O U l.n]) sP).2 (vA.open_ 8 kZ)).cell 2
     have q3:w9.cell? ⟨gc,3,none⟩=some (O U y.sd):=((vy.room (bU.lies 8 gc 42 [F TA y.t.length tc,F OA y.o.length oc,O U y.gt,O U y.sd,O U y.ms,vw l.D,vw l.P,O U l.n]) sP).2 (vA.open_ 8 kZ)).cell 3
     have q4:w9.cell? ⟨gc,4,none⟩=some (O U y.ms):=((vy.room (bU.lies 8 gc 42 [F TA y.t.length tc,F OA y.o.length oc,O U y.gt,O U y.sd,O U y.ms,vw l.D,vw l.P,O U l.n]) sP).2 (vA.open_ 8 kZ)).cell 4
     have q5:w9.cell? ⟨gc,5,none⟩=some (vw l.D):=((vy.room (bU.lies 8 gc 42 [F TA y.t.length tc,F OA y.o.length oc,O U y.gt,O U y.sd,O U y.ms,vw l.D,vw l.P,O U l.n]) sP).2 (vA.open_ 8 kZ)).cell 5
     have q6:w9.cell? ⟨gc,6,none⟩=some (vw l.P):=((vy.room (bU.lies 8 gc 42 [F TA y.t.length tc,F OA y.o.length oc,O U y.gt,O U y.sd,O U y.ms,vw l.D,vw l.P,O U l.n]) sP).2 (vA.open_ 8 kZ)).cell 6
     have q7:w9.cell? ⟨gc,7,none⟩=some (O U l.n):=((vy.room (bU.lies 8 gc 42 [F TA y.t.length tc,F OA y.o.length oc,O U y.gt,O U y.sd,O U y.ms,vw l.D,vw l.P,O U l.n]) sP).2 (vA.open_ 8 kZ)).cell 7
     simp only [Act.put,sA,gs0,gs1] at vz
     go_simp
     exact vz _ _ rfl (dS vA vy) gR
    refine aa _ vd0 ?_
    apply aa
    case h1 =>
     intro vs L9 w9 vA vy hB K9 vz
     have q0:w9.cell? ⟨gc,0,none⟩=some (F TA y.t.length tc):=((vy.room (bU.lies 8 gc 42 [F TA y.t.length tc,F OA y.o.length oc,O U y.gt,O U y.sd,O U y.ms,vw l.D,vw l.P,O U l.n]) sP).2 (vA.open_ 8 kZ)).cell 0
     have q1:w9.cell? ⟨gc,1,none⟩=some (F OA y.o.length oc):=((vy.room (bU.lies 8 gc 42 [F TA y.t.length tc,F OA y.o.length oc,O U y.gt,O U y.sd,O U y.ms,vw l.D,vw l.P,O U l.n]) sP).2 (vA.open_ 8 kZ)).cell 1
     have q2:w9.cell? ⟨gc,2,none⟩=some (O U y.gt):=((vy.room (bU.lies 8 gc 42 [F TA y.t.length tc,F OA y.o.length oc,O U y.gt,O U y.sd,O U y.ms,vw l.D,vw l.P,O U l.n]) sP).2 (vA.open_ 8 kZ)).cell 2
     have q3:w9.cell? ⟨gc,3,none⟩=some (O U y.sd):=((vy.room (bU.lies 8 gc 42 [F TA y.t.length tc,F OA y.o.length oc,O U y.gt,O U y.sd,O U y.ms,vw l.D,vw l.P,O U l.n]) sP).2 (vA.open_ 8 kZ)).cell 3
     have q4:w9.cell? ⟨gc,4,none⟩=some (O U y.ms):=((vy.room (bU.lies 8 gc 42 [F TA y.t.length tc,F OA y.o.length oc,O U y.gt,O U y.sd,O U y.ms,vw l.D,vw l.P,O U l.n]) sP).2 (vA.open_ 8 kZ)).cell 4
     have q5:w9.cell? ⟨gc,5,none⟩=some (vw l.D):=((vy.room (bU.lies 8 gc 42 [F TA y.t.length tc,F OA y.o.length oc,O U y.gt,O U y.sd,O U y.ms,vw l.D,vw l.P,O U l.n]) sP).2 (vA.open_ 8 kZ)).cell 5
     have q6:w9.cell? ⟨gc,6,none⟩=some (vw l.P):=((vy.room (bU.lies 8 gc 42 [F TA y.t.length tc,F OA y.o.length oc,O U y.gt,O U y.sd,O U y.ms,vw l.D,vw l.P,O U l.n]) sP).2 (vA.open_ 8 kZ)).cell 6
     have q7:w9.cell? ⟨gc,7,none⟩=some (O U l.n):=((vy.room (bU.lies 8 gc 42 [F TA y.t.length tc,F OA y.o.length oc,O U y.gt,O U y.sd,O U y.ms,vw l.D,vw l.P,O U l.n]) sP).2 (vA.open_ 8 kZ)).cell 7
     simp only [Act.put,sA,gs0,gs1] at vz
     go_simp
     exact vz _ _ rfl (dS vA vy) gR
    refine sm0 [] (fun v _=>∃ t:ByteArray,v=vw t∧t.size≤500) (fun vs L9 w9 vA vy hB K9 vz=>?_) ?_
    next =>
     have d1:=fe hB 1
     have d2:=fe hB 2
     simp only [d1,d2] at vz ⊢
     simp only [Act.put,sA,gs0,gs1] at vz
     go_simp
     refine (mx (y.at TA tc OA oc) l zN.out g A bs cap _ w w9 (by have:=vy.cnt; omega) Fa Lf vy.env ⟨ay (vy.owns hT zo.out),ay (vy.owns hO Dn.out)⟩ (fun b e=>by have:=lJ hT b e; omega) (fun b e=>by have:=lJ hO b e; omega)).mono ?_
     rintro en w8 ⟨t8,rfl,AL,xu,wg⟩
     exact vz _ _ _ rfl ⟨t8,rfl,AL⟩ (vy.call vA.self dD xu oM wg sP) (fun _=>wg)
    refine sm [8] (fun v w9=>∃ (u:Value) (z:Oc) (q:Lg) (T:ByteArray),v=.tuple #[u,vw T]∧iv w9 W.heap.size z q u∧oS z q=true) (fun vs L9 w9 vA vy hB K9 vz=>?_) ?_
    next =>
     have d0:=fe hB 0
     simp only [d0] at vz ⊢
     simp only [Act.put,sA,gs0,gs1] at vz
     obtain ⟨t3,e3,ez3⟩:=fs hB 3
     simp only [e3] at vz ⊢
     go_simp
     have hwS:W.heap.size≤w9.heap.size:=jT Gb vy.size
     have IB:oS (fq (y.at TA tc OA oc) l t3) (fL (y.at TA tc OA oc) l t3)=true:=by rw [uN,uO]; exact pC t3 vY.out
     refine (nK (y.at TA tc OA oc) l t3 w9 ⟨ay (vy.owns hT zo.out),ay (vy.owns hO Dn.out)⟩ (by show y.t.length≤_; omega) (by show y.o.length≤_; omega) oM oM).mono ?_
     rintro en w8 ⟨v8,rfl,AF,vB⟩
     exact vz _ _ _ rfl ⟨v8,_,_,_,rfl,AF.lower hwS,IB⟩ (vy.below vA.self dD vB) (fun _=>cl vB _)
    refine pm0 [] 4 (fun u v _=>v=u∧∃ q T,u=.tuple #[q,vw T]) (fun vs L9 w9 vA vy hB K9 vz=>?_) ?_
    next =>
     obtain ⟨u5,_,_,T5,e5,_⟩:=fs hB 4
     simp only [e5] at vz ⊢
     go_simp
     exact vz _ _ _ rfl ⟨rfl,u5,T5,rfl⟩ (dS vA vy) gR
    refine sm [8] (fun v w9=>∃ (z:Oc) (q:Lg),iv w9 W.heap.size z q v∧oS z q=true) (fun vs L9 w9 vA vy hB K9 vz=>?_) ?_
    next =>
     simp only [Act.put,sA,gs0,gs1] at vz
     obtain ⟨q5,_⟩:=fs hB 5
     obtain ⟨u4,z4,l4,T4,e4,h4,h4g⟩:=fs hB 4
     simp only [q5,e4] at vz ⊢
     go_simp
     exact vz _ _ _ rfl ⟨z4,l4,h4,h4g⟩ (dS vA vy) gR
    refine sm0 [] (fun v _=>∃ T:ByteArray,v=vw T) (fun vs L9 w9 vA vy hB K9 vz=>?_) ?_
    next =>
     simp only [Act.put,sA,gs0,gs1] at vz
     obtain ⟨q5,u4,T4,e4⟩:=fs hB 5
     simp only [q5,e4] at vz ⊢
     go_simp
     exact vz _ _ _ rfl ⟨_,rfl⟩ (dS vA vy) gR
    refine sm [] (fun _ w9=>∃ (z:Oc) (q:Lg),di w9 W.heap.size gc z q∧oS z q=true) (fun vs L9 w9 vA vy hB K9 vz=>?_) ?_
    next =>
     simp only [Act.put] at vz
     obtain ⟨z,q,⟨TB,tb,OB,ob,e6,h1,h2⟩,IC⟩:=fs hB 6
     have wn:ah w9 gc 42 [F TA y.t.length tc,F OA y.o.length oc,O U y.gt,O U y.sd,O U y.ms,vw l.D,vw l.P,O U l.n]:=(vy.room (bU.lies 8 gc 42 [F TA y.t.length tc,F OA y.o.length oc,O U y.gt,O U y.sd,O U y.ms,vw l.D,vw l.P,O U l.n]) sP).2 vA.self
     simp only [e6] at vz ⊢
     obtain ⟨x0,x1,x2,x3,x4,x5,x6,x7⟩:=cells8 wn
     obtain ⟨f0,f1,f2,f3,f4,f5,f6,f7⟩:=frz8 wn
     have Hn:=jZ (di.put (l:=q) wn h1 h2)
     have xv:=jZ (gw8 w9 gc (F TB z.t.length tb) (F OB z.o.length ob) (O U z.gt) (O U z.sd) (O U z.ms) (vw q.D) (vw q.P) (O U q.n))
     clear h1 h2 wn
     go_simp
     exact vz _ undef _ rfl ⟨z,q,Hn.out,IC⟩ (vy.wrote vA.self dD xv.out (fun b e=>by injection e with e; subst e; exact ⟨oM,oM,.inl sP⟩) (by intro p hp e; simp only [List.mem_singleton] at hp; subst hp; exact .inl rfl)) nq
    refine au fun vs Lq W5 vI xq hB=>?_
    obtain ⟨z,q,Jx,Jy⟩:=hB 8 _ rfl rfl dD
    clear hB vI
    have Fc:Hid (CQ w W W5 g A bs cap (m+100100+2100 * (7 - (k - 1))) gc z q):=⟨xq.le.mono oM,xq.lies St.out (by simp only [mC,mN,oF]; omega),Jx,dY St.gr xq (by intro k hk vJ; simp only [mC,mN,oF] at hk; omega) St.env,l1,hgB,hwW⟩
    have Lh:=jZ (vd Jy)
    have zV:IntKind.i64.wrap ((k:Int) - 1)=(k:Int) - 1:=IntWalk.i64_in _ oM
    have Ba:((k:Int) - 1)=((k - 1:Nat):Int):=oM
    have DZ:=jZ Ba
    clear Ba Jx Jy xq St hT hO K3 zo Dn Bz vY zl
    go_wp2
    go_roundw
    case rel=>exact ⟨k - 1,z,q,oM,by rw [DZ.out],Lh,Fc⟩
    case measure=>simp [intOf]; omega
   ·have Ab:k=0:=oM
    subst Ab
    have hlt' : ¬ (0:Int) < ((0:Nat):Int):=oM
    go_wp2_with fail
    go_meet
    case rel=>exact ⟨y,l,zl.out,HQ.out.mono oM⟩
 case rest =>
  clear HQ zl
  obtain ⟨y2,l,wU,Q⟩:=hcut
  go_wp2_with fail
  refine (kP Q.env 24 oM oM).mono ?_
  rintro e W5 ⟨b,rfl,E5,gr⟩
  have Q5:=Q.next E5 gr
  clear Q E5 gr
  go_upto_if 27 with fail
  go_cut [] (fun wx=>∃ l2:Lg,CS y2 l2∧CQ w W wx g A bs cap (m+125000) gc y2 l2)
  case first =>
   cases b
   ·go_wp2_with fail
    go_meet
    case rel=>exact ⟨l,wU,Q5.mono oM⟩
   ·go_wp2_with fail
    refine (rz g A bs cap _ w W5 oM Q5.env).mono ?_
    rintro e W6 ⟨l2,rfl,⟨yn, -⟩,E6,gr⟩
    have Q6:=Q5.next E6 gr
    clear Q5 E6 gr
    obtain ⟨TA2,tc2,OA2,oc2,K3,_,_⟩:=Q6.con
    obtain ⟨f0,f1,f2,f3,f4,f5,f6,f7⟩:=frz8 K3
    obtain ⟨c0,c1,c2,c3,c4,c5,c6,c7⟩:=cells8 K3
    have Lj:=jZ ((Q6.setLog l2).mono (show _≤m+125000 by omega))
    clear K3 Q6
    go_wp2_with fail
    go_meet
    case rel=>exact ⟨l2,⟨wU.1,wU.2.1,yn⟩,Lj.out⟩
  case rest =>
   clear Q5 wU
   obtain ⟨l2,wU,Q⟩:=hcut
   obtain ⟨TA2,tc2,OA2,oc2,K3,hT,hO⟩:=Q.con
   have L2:=Q.out
   obtain ⟨k0,k1,k2,k3,k4,k5,k6,k7⟩:=cells8 K3
   obtain ⟨u0,u1,u2,u3,u4,u5,u6,u7⟩:=cells8 L2
   obtain ⟨f0,f1,f2,f3,f4,f5,f6,f7⟩:=frz8 L2
   obtain ⟨W9,vS⟩ : ∃ W9,((((((((wc.setCell ⟨W.heap.size,0,none⟩ (F TA2 y2.t.length tc2)).setCell ⟨W.heap.size,1,none⟩ (F OA2 y2.o.length oc2)).setCell ⟨W.heap.size,2,none⟩ (O U y2.gt)).setCell ⟨W.heap.size,3,none⟩ (O U y2.sd)).setCell ⟨W.heap.size,4,none⟩ (O U y2.ms)).setCell ⟨W.heap.size,5,none⟩ (vw l2.D)).setCell ⟨W.heap.size,6,none⟩ (vw l2.P)).setCell ⟨W.heap.size,7,none⟩ (O U l2.n))=W9:=⟨_,rfl⟩
   have LS:ah W9 W.heap.size 42 [F TA2 y2.t.length tc2,F OA2 y2.o.length oc2,O U y2.gt,O U y2.sd,O U y2.ms,vw l2.D,vw l2.P,O U l2.n]:=by rw [← vS]; exact oh L2 (F TA2 y2.t.length tc2) (F OA2 y2.o.length oc2) (O U y2.gt) (O U y2.sd) (O U y2.ms) (vw l2.D) (vw l2.P) (O U l2.n)
   have HT:W9.ownsRow W.heap.size 104 2 (F TA2 y2.t.length tc2) y2.t.length (y2.t.flatMap aq.enc):=by rw [← vS]; exact (dG (F TA2 y2.t.length tc2) (F OA2 y2.o.length oc2) (O U y2.gt) (O U y2.sd) (O U y2.ms) (vw l2.D) (vw l2.P) (O U l2.n) L2 hT hO).1
   have HO:W9.ownsRow W.heap.size 147 3 (F OA2 y2.o.length oc2) y2.o.length (y2.o.flatMap ae.enc):=by rw [← vS]; exact (dG (F TA2 y2.t.length tc2) (F OA2 y2.o.length oc2) (O U y2.gt) (O U y2.sd) (O U y2.ms) (vw l2.D) (vw l2.P) (O U l2.n) L2 hT hO).2
   have EE:eR w W9 g A bs cap (m+125000):=by rw [← vS]; exact Q.env.wrote (gw8 wc W.heap.size (F TA2 y2.t.length tc2) (F OA2 y2.o.length oc2) (O U y2.gt) (O U y2.sd) (O U y2.ms) (vw l2.D) (vw l2.P) (O U l2.n)) oM hgB
   have GG:W.grownBy W9 (some g):=by rw [← vS]; exact bj Q.gr (gw8 wc W.heap.size (F TA2 y2.t.length tc2) (F OA2 y2.o.length oc2) (O U y2.gt) (O U y2.sd) (O U y2.ms) (vw l2.D) (vw l2.P) (O U l2.n)) nR
   have ID:=jZ vS
   have zZ:=jZ LS
   have Bx:=jZ HT
   have By:=jZ HO
   clear vS LS HT HO L2 K3 hT hO Q
   repeat (first | go_values | go_skip | go_guarded | go_step | go_upon | simp only [])
   rw [ID.out]
   have LS:=zZ.out
   obtain ⟨x0,x1,x2,x3,x4,x5,x6,x7⟩:=cells8 LS
   refine bodyPost_ret (v:=.agg #[F TA2 y2.t.length tc2,F OA2 y2.o.length oc2,O U y2.gt,O U y2.sd,O U y2.ms,vw l2.D,vw l2.P,O U l2.n]) (by simp [results,Tryz.results61,go_sem,x0,x1,x2,x3,x4,x5,x6,x7]) rfl ?_
   exact ⟨y2,l2,_,rfl,⟨TA2,tc2,OA2,oc2,rfl,Bx.out,By.out⟩,wU,EE.mono oM,GG⟩
structure XS (w wx:World) (A:Option Addr) (bs:List UInt8) (cap m:Nat) (tt:TypeId) (co:List Value) (g5:Nat) (y:Oc) (l:Lg):Prop where
 env:eR w wx (w.heap.size+1) A bs cap m
 out:ah wx w.heap.size tt co
 con:di wx (w.heap.size+2) g5 y l
 gr:w.grownBy wx (some (w.heap.size+1))
 l5:w.heap.size+2≤g5
section
variable {w wx wy:World} {A:Option Addr} {bs:List UInt8} {cap m m' g5:Nat} {tt:TypeId} {co:List Value} {y:Oc} {l:Lg}
theorem XS.mono (h:XS w wx A bs cap m tt co g5 y l) (hm:m≤m'):XS w wx A bs cap m' tt co g5 y l:={ h with env:=h.env.mono hm }
theorem XS.next (h:XS w wx A bs cap m tt co g5 y l) (E:eR w wy (w.heap.size+1) A bs cap m') (hg:wx.grownBy wy (some (w.heap.size+1))):XS w wy A bs cap m' tt co g5 y l :=
 ⟨E,h.out.kept hg iE,h.con.grown hg oM (by have:=h.l5; omega),aB h.gr hg,h.l5⟩
theorem XS.below (h:XS w wx A bs cap m tt co g5 y l) (hb:Below wx.heap.size wx wy):XS w wy A bs cap m tt co g5 y l:=h.next (h.env.below hb) (cl hb _)
theorem XS.alloc (h:XS w wx A bs cap m tt co g5 y l) (o:Obj):XS w (wx.alloc o) A bs cap m tt co g5 y l:=h.next (h.env.alloc o) (World.grownBy_alloc wx o _)
theorem XS.wrote {b:Nat} (h:XS w wx A bs cap m tt co g5 y l) (hg:wx.grownBy wy (some b)) (hb:g5 < b) (hf:∀ (k n:Nat) (v:Value) (e:TypeId) (xs:List Value),e=104 ∨ e=147→wx.ownsRow (w.heap.size+2) e k v n xs→v.ownBlock ≠ some b):XS w wy A bs cap m tt co g5 y l:=by
 obtain ⟨TA,tc,OA,oc,K,hT,hO⟩:=h.con
 exact ⟨h.env.wrote hg (by have:=h.l5; omega) (by have:=h.l5; omega),h.out.kept hg (by intro e; injection e; have:=h.l5; omega),⟨TA,tc,OA,oc,K.kept hg iE,hT.kept hg (.inr (hf _ _ _ _ _ (.inl rfl) hT)),hO.kept hg (.inr (hf _ _ _ _ _ (.inr rfl) hO))⟩,bj h.gr hg (by have:=h.l5; omega),h.l5⟩
theorem XS.setLog (h:XS w wx A bs cap m tt co g5 y l) (l2:Lg):XS w (((wx.setCell ⟨g5,5,none⟩ (vw l2.D)).setCell ⟨g5,6,none⟩ (vw l2.P)).setCell ⟨g5,7,none⟩ (O U l2.n)) A bs cap m tt co g5 y l2:=by
 obtain ⟨TA,tc,OA,oc,K,hT,hO⟩:=h.con
 have hg:=(ab (g:=g5) (i:=7) (u:=O U l2.n) (ab (g:=g5) (i:=6) (u:=vw l2.P) (ab (g:=g5) (i:=5) (u:=vw l2.D) (World.grownBy.refl wx (some g5)))))
 have h5:=h.l5
 exact ⟨h.env.wrote hg oM oM,h.out.kept hg iE,⟨TA,tc,OA,oc,((K.set 5 _).set 6 _).set 7 _,ak hT K ft hg,ak hO K fu hg⟩,bj h.gr hg oM,h5⟩
end
theorem ux {W:World} {B b k n:Nat} {v:Value} {e:TypeId} {xs cs:List Value} (hL:ah W b 27 cs) (he:e=104 ∨ e=147) (ho:W.ownsRow B e k v n xs):v.ownBlock ≠ some b:=fun hb =>
 bv ho hL (by rcases he with rfl | rfl <;> decide) hb.symm
set_option maxRecDepth 100000 in
theorem mT (A:Option Addr) (cap:Nat) (bs:List UInt8) (w:World) (hr:gZ w w.heap.size A bs) :
  Calls vx 26 #[F A bs.length cap] w fun e w'=>∃ (y:Oc) (l:Lg) (v:Value) (t:ByteArray),e=.returned (.tuple #[v,vw t])∧iv w' w.heap.size y l v∧CS y l∧t.size≤4000∧Below w.heap.size w w':=by
 have b1:Below w.heap.size w ((w.alloc (.cells #[F none 0 0,F none 0 0,O U 0,O U 0,O U 0,vw ⟨#[]⟩,vw ⟨#[]⟩,O U 0] 42)).alloc (.cells #[F A bs.length cap,O U 0,.int .u64 0] 92)):=((Below.refl w.heap.size w).alloc (by exact Nat.le_refl _) (.cells #[F none 0 0,F none 0 0,O U 0,O U 0,O U 0,vw ⟨#[]⟩,vw ⟨#[]⟩,O U 0] 42)).alloc sP (.cells #[F A bs.length cap,O U 0,.int .u64 0] 92)
 have Lc:=ah.newB w (.cells #[F none 0 0,F none 0 0,O U 0,O U 0,O U 0,vw ⟨#[]⟩,vw ⟨#[]⟩,O U 0] 42) 92 #[F A bs.length cap,O U 0,.int .u64 0]
 have L2:=(ah.new w 42 #[F none 0 0,F none 0 0,O U 0,O U 0,O U 0,vw ⟨#[]⟩,vw ⟨#[]⟩,O U 0]).alloc (.cells #[F A bs.length cap,O U 0,.int .u64 0] 92)
 go_enter Tryz.func26,Tryz.ntmps26
 go_wp2_with fail
 generalize ((w.alloc (.cells #[F none 0 0,F none 0 0,O U 0,O U 0,O U 0,vw ⟨#[]⟩,vw ⟨#[]⟩,O U 0] 42)).alloc (.cells #[F A bs.length cap,O U 0,.int .u64 0] 92))=W1 at b1 Lc L2 ⊢
 have E1:eR w W1 (w.heap.size+1) A bs cap 0:=⟨⟨0,0,Lc,Nat.le_refl _,oM,oM⟩,(bn.below hr b1).mono oM,cl b1 _⟩
 have Cb:=Lc.lt
 have G1:=cl b1 (some (w.heap.size+1))
 clear hr Lc b1
 refine (qN (w.heap.size+1) A bs cap 0 w W1 oM E1).mono ?_
 rintro e W2 ⟨y,l,v,rfl,⟨TA,tc,OA,oc,rfl,hT,hO⟩,wU,E2,gr⟩
 have S:XS w (W2.alloc (.cells #[F TA y.t.length tc,F OA y.o.length oc,O U y.gt,O U y.sd,O U y.ms,vw l.D,vw l.P,O U l.n] 42)) A bs cap 130000 42 [F none 0 0,F none 0 0,O U 0,O U 0,O U 0,vw ⟨#[]⟩,vw ⟨#[]⟩,O U 0] W2.heap.size y l:=⟨(E2.alloc _).mono oM,(L2.kept gr iE).alloc _,⟨TA,tc,OA,oc,ah.new W2 _ _,(ai hT oM).alloc _,(ai hO oM).alloc _⟩,dt (aB G1 gr) _,by have:=gr.size; omega⟩
 have zl:=jZ wU
 clear wU hT hO E1 E2 L2 G1 gr
 go_upto_region 3 with fail
 generalize (W2.alloc (.cells #[F TA y.t.length tc,F OA y.o.length oc,O U y.gt,O U y.sd,O U y.ms,vw l.D,vw l.P,O U l.n] 42))=W3 at S ⊢
 have h5:=S.l5
 generalize W2.heap.size=g5 at S h5 ⊢
 clear Cb
 go_wp2_with fail
 refine (kP S.env 40 oM oM).mono ?_
 rintro e W4 ⟨q,rfl,E4,gr⟩
 have S4:=S.next E4 gr
 clear S E4 gr
 go_upto_if 15 with fail
 go_cut [] (fun wx=>∃ l:Lg,CS y l∧XS w wx A bs cap 140000 42 [F none 0 0,F none 0 0,O U 0,O U 0,O U 0,vw ⟨#[]⟩,vw ⟨#[]⟩,O U 0] g5 y l)
 case first =>
  cases q
  ·go_wp2_with fail
   go_meet
   case rel=>exact ⟨l,zl.out,S4.mono oM⟩
  ·have S5:=S4.alloc (.cells #[vw ⟨#[]⟩,vw ⟨#[]⟩,O U 0] 27)
   have L6:=ah.new W4 27 #[vw ⟨#[]⟩,vw ⟨#[]⟩,O U 0]
   have h6:g5 < W4.heap.size:=by obtain ⟨_,_,_,_,K,_,_⟩:=S4.con; exact K.lt
   clear S4
   go_wp2_with fail
   generalize W4.alloc (.cells #[vw ⟨#[]⟩,vw ⟨#[]⟩,O U 0] 27)=W5 at S5 L6 ⊢
   generalize W4.heap.size=g6 at L6 h6 ⊢
   refine (dJ S5.env 2 oM oM).mono ?_
   rintro e W6 ⟨x,rfl,hx,E6,gr⟩
   have HS:=jZ (S5.next E6 gr)
   have HL:=jZ (L6.kept gr iE)
   clear S5 gr E6 L6
   have zV:IntKind.i64.wrap (59+(x:Int))=59+(x:Int):=IntWalk.i64_in _ oM
   go_wp2_with fail
   go_loopw [7] (fun i wr=>∃ (k:Nat) (l3:Lg),k≤60∧i=O U k∧Hid (nC (60 - k) l3)∧Hid (XS w wr A bs cap 130010 42 [F none 0 0,F none 0 0,O U 0,O U 0,O U 0,vw ⟨#[]⟩,vw ⟨#[]⟩,O U 0] g5 y l)∧Hid (ah wr g6 27 [vw l3.D,vw l3.P,O U l3.n])) (fun i _=>(intOf i).toNat)
   case atStart=>exact ⟨59+x,⟨⟨#[]⟩,⟨#[]⟩,0⟩,oM,sP,nC.zero.mono (Nat.zero_le _),HS.out.mono oM,HL⟩
   case round =>
    clear HS HL hx zV
    obtain ⟨k,l3,hk,rfl,HW,HS,HL⟩:=hrel
    by_cases vH:0 < k
    ·obtain ⟨k,rfl⟩ : ∃ q,k=q+1:=⟨k - 1,oM⟩
     clear vH
     have xC:(0:Int) < ((k+1:Nat):Int):=oM
     have L6:=HL.out
     obtain ⟨k0,k1,k2⟩:=cells3 L6
     clear L6
     go_wp2_with fail
     refine (ig l3 ⟨⟨#[120]⟩,⟨#[]⟩⟩ wr (by have:=HW.out.1; omega) dD dD).mono ?_
     rintro e W7 ⟨rfl,hb⟩
     have Jz:=jZ ((HW.out.app ⟨⟨#[120]⟩,⟨#[]⟩⟩).mono (show 60 - (k+1)+1≤60 - k by omega))
     have S7:=HS.out.below hb
     have L6:=HL.out.below hb HL.out.lt
     clear HW HS HL hb k0 k1 k2
     generalize cp l3 ⟨⟨#[120]⟩,⟨#[]⟩⟩=l4 at Jz ⊢
     obtain ⟨k0,k1,k2⟩:=cells3 L6
     obtain ⟨f0,f1,f2⟩:=frz3 L6
     have HS:=jZ (S7.wrote (dI W7 g6 (vw l4.D) (vw l4.P) (O U l4.n)) h6 (fun k n v e xs he ho=>ux L6 he ho))
     have HL:=jZ (oN L6 (vw l4.D) (vw l4.P) (O U l4.n))
     clear L6 S7
     go_wp2_with fail
     go_roundw
     case rel=>exact ⟨k,l4,oM,by go_num,Jz,HS,HL⟩
     case measure=>simp [intOf] <;> omega
    ·obtain rfl:k=0:=oM
     clear vH
     have xC : ¬ (0:Int) < ((0:Nat):Int):=oM
     have L6:=HL.out
     obtain ⟨k0,k1,k2⟩:=cells3 L6
     obtain ⟨TA,tc,OA,oc,K5,_,_⟩:=HS.out.con
     obtain ⟨c0,c1,c2,c3,c4,c5,c6,c7⟩:=cells8 K5
     obtain ⟨f0,f1,f2,f3,f4,f5,f6,f7⟩:=frz8 K5
     have CW:=jZ ((HS.out.setLog l3).mono (show _≤140000 by omega))
     have Lk:Hid (CS y l3):=⟨zl.out.1,zl.out.2.1,by have:=HW.out.1; omega,by have:=HW.out.2; omega,by have:=HW.out.2; omega⟩
     clear L6 K5 HS HL HW
     go_wp2_with fail
     go_meet
     case rel=>exact ⟨l3,Lk.out,CW.out⟩
 case rest =>
  clear zl S4 l
  obtain ⟨l,wU,S⟩:=hcut
  have zl:=jZ wU
  clear wU
  obtain ⟨TA,tc,OA,oc,K5,hT,hO⟩:=S.con
  obtain ⟨c0,c1,c2,c3,c4,c5,c6,c7⟩:=cells8 K5
  go_wp2_with fail
  refine (mx (y.at TA tc OA oc) l (show vu (y.at TA tc OA oc) from zl.out.1) (w.heap.size+1) A bs cap _ w wc oM (by have:=zl.out.2.1.1; show y.t.length≤_; omega) (by have:=zl.out.2.1.2; show y.o.length≤_; omega) S.env ⟨ay hT,ay hO⟩ (fun b e=>by have:=lJ hT b e; omega) (fun b e=>by have:=lJ hO b e; omega)).mono ?_
  rintro e W6 ⟨t,rfl,ht,E,gr⟩
  have S6:=S.next E gr
  clear S E gr K5 hT hO c0 c1 c2 c3 c4 c5 c6 c7
  go_wp2_with fail
  refine (kP S6.env 8 oM oM).mono ?_
  rintro e W7 ⟨q,rfl,E7,gr⟩
  have S7:=S6.next E7 gr
  clear S6 E7 gr
  go_upto_if 36 with fail
  go_cut [8] (fun s8 wx=>∃ t:ByteArray,s8=vw t∧t.size≤501∧XS w wx A bs cap 150000 42 [F none 0 0,F none 0 0,O U 0,O U 0,O U 0,vw ⟨#[]⟩,vw ⟨#[]⟩,O U 0] g5 y l)
  case first =>
   cases q
   ·go_wp2_with fail
    go_meet
    case rel=>exact ⟨t,rfl,oM,S7.mono oM⟩
   ·go_wp2_with fail
    refine (nv (w.heap.size+1) A cap _ bs t ⟨#[32,48,49,97,64,35,44]⟩ w W7 dD dD oM oM S7.env).mono ?_
    rintro e W8 ⟨x,rfl,hx,E8,gr⟩
    have S8:=S7.next E8 gr
    clear S7 E8 gr
    go_wp2_with fail
    go_meet
    case rel=>exact ⟨x,rfl,oM,S8.mono oM⟩
  case rest =>
   clear S7 ht t
   obtain ⟨t,rfl,ht,S⟩:=hcut
   obtain ⟨TA,tc,OA,oc,K5,hT,hO⟩:=S.con
   have L2:=S.out
   obtain ⟨c0,c1,c2,c3,c4,c5,c6,c7⟩:=cells8 K5
   obtain ⟨u0,u1,u2,u3,u4,u5,u6,u7⟩:=cells8 L2
   obtain ⟨f0,f1,f2,f3,f4,f5,f6,f7⟩:=frz8 L2
   obtain ⟨W9,vS⟩ : ∃ W9,((((((((wc.setCell ⟨w.heap.size,0,none⟩ (F TA y.t.length tc)).setCell ⟨w.heap.size,1,none⟩ (F OA y.o.length oc)).setCell ⟨w.heap.size,2,none⟩ (O U y.gt)).setCell ⟨w.heap.size,3,none⟩ (O U y.sd)).setCell ⟨w.heap.size,4,none⟩ (O U y.ms)).setCell ⟨w.heap.size,5,none⟩ (vw l.D)).setCell ⟨w.heap.size,6,none⟩ (vw l.P)).setCell ⟨w.heap.size,7,none⟩ (O U l.n))=W9:=⟨_,rfl⟩
   have LS:ah W9 w.heap.size 42 [F TA y.t.length tc,F OA y.o.length oc,O U y.gt,O U y.sd,O U y.ms,vw l.D,vw l.P,O U l.n]:=by rw [← vS]; exact oh L2 (F TA y.t.length tc) (F OA y.o.length oc) (O U y.gt) (O U y.sd) (O U y.ms) (vw l.D) (vw l.P) (O U l.n)
   have HT:W9.ownsRow w.heap.size 104 2 (F TA y.t.length tc) y.t.length (y.t.flatMap aq.enc):=by rw [← vS]; exact (dG (F TA y.t.length tc) (F OA y.o.length oc) (O U y.gt) (O U y.sd) (O U y.ms) (vw l.D) (vw l.P) (O U l.n) L2 (ai hT oM) (ai hO oM)).1
   have HO:W9.ownsRow w.heap.size 147 3 (F OA y.o.length oc) y.o.length (y.o.flatMap ae.enc):=by rw [← vS]; exact (dG (F TA y.t.length tc) (F OA y.o.length oc) (O U y.gt) (O U y.sd) (O U y.ms) (vw l.D) (vw l.P) (O U l.n) L2 (ai hT oM) (ai hO oM)).2
   have BB:Below w.heap.size w W9:=by rw [← vS]; exact pD (bj S.gr (gw8 wc w.heap.size (F TA y.t.length tc) (F OA y.o.length oc) (O U y.gt) (O U y.sd) (O U y.ms) (vw l.D) (vw l.P) (O U l.n)) nR) oM
   have ID:=jZ vS
   have zZ:=jZ LS
   have Bx:=jZ HT
   have By:=jZ HO
   have DP:=jZ BB
   clear vS LS HT HO BB L2 K5 hT hO S
   repeat (first | go_values | go_skip | go_guarded | go_step | go_upon | simp only [])
   rw [ID.out]
   have LS:=zZ.out
   obtain ⟨x0,x1,x2,x3,x4,x5,x6,x7⟩:=cells8 LS
   refine bodyPost_ret (v:=.tuple #[.agg #[F TA y.t.length tc,F OA y.o.length oc,O U y.gt,O U y.sd,O U y.ms,vw l.D,vw l.P,O U l.n],vw t]) (by simp [results,Tryz.results26,go_sem,x0,x1,x2,x3,x4,x5,x6,x7]) rfl ?_
   exact ⟨y,l,_,t,rfl,⟨TA,tc,OA,oc,rfl,Bx.out,By.out⟩,zl.out,oM,DP.out⟩
noncomputable def eB (l:Lg):List ((List UInt8 × List UInt8) × Nat):=if l.ok then aF 60 0 (bl l.D++bl l.P) else []
def ma (l:Lg) (w:World) (e:Ending) (w' : World):Prop:=∃ A c m,e=.returned (.tuple #[F A (List.length m) c,.bool l.ok])∧dP (eB l) m∧w'.ownsRow w.heap.size 62 2 (F A m.length c) m.length (m.flatMap dq.enc)∧Below w.heap.size w w'
theorem mb {l:List ((List UInt8 × List UInt8) × Nat)} {m m' : List dq} (h:dP l m) (h' : dP l m'):m=m':=by
 unfold dP at h h'
 have e:m.map (fun r=>(bl r.c,bl r.r))=m'.map (fun r=>(bl r.c,bl r.r)):=h.trans h'.symm
 clear h h'
 induction m generalizing m' with
 | nil=>cases m' with
  | nil=>rfl
  | cons y m'=>simp at e
 | cons x m ih=>cases m' with
  | nil=>simp at e
  | cons y m' =>
   simp only [List.map_cons,List.cons.injEq,Prod.mk.injEq] at e
   obtain ⟨⟨e1,e2⟩,e3⟩:=e
   obtain ⟨xc,xr⟩:=x
   obtain ⟨yc,yr⟩:=y
   rw [show xc=yc from dW e1,show xr=yr from dW e2,ih e3]
set_option maxRecDepth 100000 in
theorem kM (l:Lg) (w:World) (hs:l.D.size+l.P.size≤2000000) (ht:iN w) :
  Calls vx 30 #[l.val] w (ma l w):=by
 have b1:=bZ w (.cells #[vw l.D,vw l.P,O U l.n] 27)
 have L1:=ah.new w 27 #[vw l.D,vw l.P,O U l.n]
 have xk:=ht.then b1
 have hz:(l.D++l.P).size=l.D.size+l.P.size:=bg _ _
 have y7:bl (l.D++l.P)=bl l.D++bl l.P:=dk _ _
 go_enter Tryz.func30,Tryz.ntmps30
 go_wp2_with fail
 generalize w.alloc (.cells #[vw l.D,vw l.P,O U l.n] 27)=W at xk b1 L1 ⊢
 generalize hg:w.heap.size=g at L1 ⊢
 refine (kh l _ hs xk).mono ?_
 rintro e w2 ⟨rfl,vC⟩
 have L2:=L1.below vC L1.lt
 obtain ⟨c0,c1,c2⟩:=cells3 L2
 have xy:Below w.heap.size w w2:=by rw [← hg] at *; exact av b1 vC
 cases vF:l.ok
 ·have HK:=jZ vF
  clear vF y7 L1 L2
  go_wp2_with fail
  go_ret2
  exact ⟨none,0,[],by rw [HK.out]; rfl,by unfold eB; rw [HK.out]; rfl,World.ownsRow_nil _ _ _ _,xy⟩
 ·have HK:=jZ vF
  have Mc:l.D.size+l.P.size≤30000:=by
   have h9:=eX (bY.1 vF).1
   rwa [ao,ao] at h9
  have HO:Hid (∀ W,iN W→Calls vx 68 #[vw (l.D++l.P)] W (iX (l.D++l.P) W)):=fun W hW=>gG (l.D++l.P) W oM hW
  have HB:=jZ y7
  clear vF y7 L1 L2
  go_wp2_with fail
  refine (HO.out _ (ht.then xy)).mono ?_
  rintro e w3 ⟨A,c,A8,c8,m,rfl,hm,hO,_,vQ⟩
  go_wp2_with fail
  go_ret2
  exact ⟨A,c,m,by rw [HK.out]; rfl,by unfold eB; rw [HK.out,if_pos rfl,← HB.out]; exact hm,ai hO (xy.size),xy.trans (vQ.mono xy.size)⟩
def Lg.zero:Lg:=⟨⟨#[]⟩,⟨#[]⟩,0⟩
noncomputable def gf (l:Lg):List dq:=(eB l).map fun e=>⟨⟨e.1.1.toArray⟩,⟨e.1.2.toArray⟩⟩
theorem jV (l:Lg):dP (eB l) (gf l):=by
 unfold dP gf
 rw [List.map_map]
 exact List.map_congr_left fun e _=>rfl
theorem uy {l:Lg} {m:List dq} (h:dP (eB l) m):m=gf l:=mb h (jV l)
noncomputable def jt:List dq→Oc→Lg→Nat→Nat
 | [],_,_,i=>i
 | e :: es,y,l,i=>if kL y l e.c=e.r then jt es (oo y l e.c) (lA y l e.c) (i+1) else i
noncomputable def kN (n:Int) (l:Lg):Bool:=cc n 1 9999 && l.ok
noncomputable def sw (n:Int) (l:Lg):Nat:=if kN n l then jt (gf l) (f9 n) Lg.zero 0 else 0
theorem fj {s:ByteArray} (h:eI s=true):eL s=⟨s.extract 0 (ci (aF 60 0 (bl s))),⟨#[]⟩,((aF 60 0 (bl s)).length:Nat)⟩∧fX s=ci (aF 60 0 (bl s)):=by
 unfold eL fX; rw [h]; exact ⟨rfl,rfl⟩
theorem kO {s:ByteArray} : eI s=true ↔ s.size≤30000:=by unfold eI; exact decide_eq_true_iff
theorem uQ {l:Lg} {e:dq} (h:dR l e=0):(cp l e).ok=true∧(∃ n,eB (cp l e)=eB l++[((bl e.c,bl e.r),n)])∧(cp l e).n=((eB (cp l e)).length:Nat) ∧
  eI ((cp l e).D++(cp l e).P)=true∧fX ((cp l e).D++(cp l e).P)=((cp l e).D++(cp l e).P).size∧ii (cp l e)=eL ((cp l e).D++(cp l e).P):=by
 cases vF:(l.ok && e.ok) with
 | false=>rw [(ie vF).2] at h; cases h
 | true =>
  by_cases hn:l.n=60
  ·rw [(fE vF hn).2] at h; cases h
  ·obtain ⟨e1, -⟩:=fJ vF hn
   rw [Bool.and_eq_true] at vF
   obtain ⟨hl,hr⟩:=vF
   have hr:eN (bl e.c) (bl e.r)=true:=hr
   obtain ⟨q1,q2,q3⟩:=bY.1 hl
   have Ae:=cF 60 0 (bl l.D++bl l.P)
   have vG:(aF 60 0 (bl l.D++bl l.P)).length < 60:=oM
   have FZ:l.n.toNat=(aF 60 0 (bl l.D++bl l.P)).length:=oM
   have ha:=l8 hr 60 0 (bl l.D++bl l.P) (by rw [q1,List.length_append]) vG
   rw [Nat.zero_add] at ha
   obtain ⟨lb,Au⟩ : ∃ lb:ByteArray,lb=⟨(bO l.n.toNat (bl e.c) (bl e.r)).toArray⟩:=⟨_,rfl⟩
   rw [← Au] at e1
   rw [e1]
   have y7:bl lb=bO (aF 60 0 (bl l.D++bl l.P)).length (bl e.c) (bl e.r):=by rw [Au,bL (bO l.n.toNat (bl e.c) (bl e.r)),FZ]
   clear Au
   have eP:bl (l.P++lb)=bl l.P++bO (aF 60 0 (bl l.D++bl l.P)).length (bl e.c) (bl e.r):=by rw [dk l.P lb,y7]
   generalize zA:bO (aF 60 0 (bl l.D++bl l.P)).length (bl e.c) (bl e.r)=ln at ha eP y7
   have yZ:aF 60 0 (bl l.D++bl (l.P++lb))=aF 60 0 (bl l.D++bl l.P)++[((bl e.c,bl e.r),ln.length)]:=by
    rw [eP,← List.append_assoc]; exact ha
   have hlens:ci (aF 60 0 (bl l.D++bl l.P)++[((bl e.c,bl e.r),ln.length)])=(bl l.D).length+((bl l.P).length+ln.length):=by
    have:ci (aF 60 0 (bl l.D++bl l.P)++[((bl e.c,bl e.r),ln.length)])=ci (aF 60 0 (bl l.D++bl l.P))+ln.length:=by simp [ci]
    omega
   have FQ:Lg.ok ⟨l.D,l.P++lb,l.n+1⟩=true:=by
    unfold Lg.ok
    rw [bY]
    simp only
    rw [yZ]
    refine ⟨by rw [hlens,eP,List.length_append],q2,by rw [List.length_append,List.length_singleton]; omega⟩
   have wH:=eX (D:=bl l.D) (P:=bl (l.P++lb)) (bY.1 FQ).1
   have BI:eI (l.D++(l.P++lb))=true:=kO.2 (by rw [bg l.D (l.P++lb),← ao l.D,← ao (l.P++lb)]; exact wH)
   have wC:ci (aF 60 0 (bl (l.D++(l.P++lb))))=(l.D++(l.P++lb)).size:=by
    rw [dk l.D (l.P++lb),(bY.1 FQ).1,ao l.D,ao (l.P++lb),bg l.D (l.P++lb)]
   have Iy:eB l=aF 60 0 (bl l.D++bl l.P):=by unfold eB; rw [hl,if_pos rfl]
   have FR:eB ⟨l.D,l.P++lb,l.n+1⟩=aF 60 0 (bl l.D++bl l.P)++[((bl e.c,bl e.r),ln.length)]:=by unfold eB; rw [FQ,if_pos rfl]; exact yZ
   refine ⟨FQ,⟨ln.length,by rw [FR,Iy]⟩,by rw [FR,List.length_append,List.length_singleton]; simp only; omega,BI,by rw [(fj BI).2,wC], ?_⟩
   rw [(fj BI).1,wC]
   unfold ii
   rw [FQ,if_pos rfl]
   simp only
   congr 1
   ·refine ua ?_
    rw [bE,List.drop_zero,List.take_of_length_le (by rw [ao]; exact Nat.le_refl _)]
   ·rw [dk l.D (l.P++lb),yZ,List.length_append,List.length_singleton]; omega
theorem uz {l:Lg} {e:dq} (h:dR l e=0) {m1 m2:List dq} (h1:dP (eB (cp l e)) m1) (h2:dP (eB l) m2):m1=m2++[e]:=by
 obtain ⟨_,⟨n,hn⟩,_⟩:=uQ h
 refine mb h1 ?_
 rw [hn]
 unfold dP at h2 ⊢
 rw [List.map_append,List.map_append,h2]; rfl
def PT (s:ByteArray):Prop:=bB (bl s)=true
theorem nS (n:Int):bB (Lib.itoa n)=true:=by
 have key:∀ m:Nat,∀ b ∈ Lib.decDigits m,ib b=true:=fun m b hb=>by
  have h:=lK m b hb
  have h5:(b != 35)=true:=by
   rw [bne_iff_ne]; rintro rfl
   have:(35:UInt8).toNat=35:=rfl
   omega
  unfold ib
  rw [h5,Bool.and_true,Bool.and_eq_true,decide_eq_true_eq,decide_eq_true_eq]
  omega
 unfold bB
 rw [List.all_eq_true]
 intro b hb
 unfold Lib.itoa at hb
 split at hb
 ·rcases List.mem_cons.1 hb with rfl | hb
  ·decide
  ·exact key _ _ hb
 ·exact key _ _ hb
theorem PT.app {a b:ByteArray} (h:PT a) (h' : PT b):PT (a++b):=by
 unfold PT bB at *
 rw [dk,List.all_append,h,h']; rfl
theorem PT.num (n:Int):PT (bJ n):=by unfold PT; rw [bL]; exact nS n
theorem rV:∀ (l:List (List UInt8)),(∀ t ∈ l,bB t=true)→bB (Lib.join l [32])=true
 | [],_=>rfl
 | x :: r,h=>by
  rw [Lib.join_cons]
  unfold bB Lib.joinTail at *
  rw [List.all_append,h x sP,Bool.true_and,List.all_eq_true]
  intro b hb
  obtain ⟨t,ht,hb⟩:=List.mem_flatten.1 hb
  obtain ⟨u,hu,rfl⟩:=List.mem_map.1 ht
  rcases List.mem_append.1 hb with hb | hb
  ·rw [List.mem_singleton.1 hb]; decide
  ·exact List.all_eq_true.1 (h u (by simp [hu])) b hb
theorem PT.list (l:List Int):PT (fl l):=by
 unfold fl
 split
 ·show bB [110,111,110,101]=true; decide
 ·unfold PT; rw [bL]
  refine rV _ fun t ht=>?_
  obtain ⟨n,_,rfl⟩:=List.mem_map.1 ht
  exact nS n
theorem PT.tray (x:aO) (k:Int):PT (eE x k):=by
 unfold eE
 split
 ·unfold lU qx
  have h1:PT ⟨#[32,105,110,32]⟩:=(by decide:bB [32,105,110,32]=true)
  have h2:PT ⟨#[32,111,117,116]⟩:=(by decide:bB [32,111,117,116]=true)
  exact (((PT.num _).app h1).app (PT.num _)).app h2
 ·rfl
theorem PT.after (z:aO) (s:cU):PT (im z s):=by
 unfold im
 split
 ·exact PT.num _
 split
 ·exact PT.num _
 split
 ·exact PT.num _
 exact PT.tray _ _
theorem PT.word {x:aO} {s t:ByteArray} (h:dn x s=some t):PT t:=by
 unfold dn at h
 repeat (split at h; · injection h with h; subst h; exact PT.num _)
 split at h
 ·split at h
  ·injection h with h; subst h; exact PT.num _
  ·cases h
 ·cases h
theorem PT.one {x:aO} {s t:ByteArray} {n:Int} (h:gH x s n=some t):PT t:=by
 unfold gH kH il jU at h
 repeat' split at h
 all_goals first | (cases h; done) | (injection h with h; subst h; first | exact PT.list _ | exact PT.tray _ _)
theorem PT.make {x:aO} {s:cU} {r:Oc × ByteArray} (h:bW x s=some r):PT r.2:=by
 unfold bW at h
 obtain ⟨z,_,rfl⟩:=Option.map_eq_some_iff.1 h
 exact PT.after _ _
theorem PT.run {x:aO} {w0:ByteArray} {ns:List Int} {r:Oc × ByteArray} (h:bD x w0 ns=some r):PT r.2:=by
 unfold bD at h
 split at h
 ·obtain ⟨t,ht,rfl⟩:=Option.map_eq_some_iff.1 h; exact PT.word ht
 ·obtain ⟨t,ht,rfl⟩:=Option.map_eq_some_iff.1 h; exact PT.one ht
 ·obtain ⟨s,_,hs⟩:=Option.bind_eq_some_iff.1 h; exact PT.make hs
 ·obtain ⟨s,_,hs⟩:=Option.bind_eq_some_iff.1 h; exact PT.make hs
 ·cases h
theorem PT.rep (x:aO) (line:ByteArray):PT (iY x line):=by
 unfold iY
 split
 ·show bB [63]=true; decide
 ·rename_i r hr
  split
  ·show bB [108,111,110,103]=true; decide
  ·unfold iL at hr
   obtain ⟨ns,_,h⟩:=Option.bind_eq_some_iff.1 hr
   exact PT.run h
theorem ve {x:aO} {line:ByteArray} (h:dq.ok ⟨line,⟨#[]⟩⟩=true):dq.ok ⟨line,iY x line⟩=true:=by
 have h:eN (bl line) []=true:=h
 show eN (bl line) (bl (iY x line))=true
 obtain ⟨h1,h2,h3,h4,_,_⟩:=cQ.1 h
 refine cQ.2 ⟨h1,h2,h3,h4,PT.rep x line, ?_⟩
 rw [ao,ss]; exact nP _
structure rW (y:Oc) (l:Lg) (t:ByteArray):Prop where
 ok:oS y l=true
 code:dR l ⟨t,kL y l t⟩=0
 log:lA y l t=cp l ⟨t,kL y l t⟩
 n:(lA y l t).n=l.n+1
theorem nT (y:Oc) (l:Lg) (t:ByteArray):rW y l t ∨ (oo y l t=y∧lA y l t=l∧(kL y l t=⟨#[110,111]⟩ ∨ kL y l t=⟨#[98,97,100]⟩ ∨ kL y l t=⟨#[102,117,108,108]⟩)):=by
 by_cases h1:dV y.off l=true
 ·by_cases h2:dq.ok ⟨t,⟨#[]⟩⟩=true
  ·by_cases h3:l.n=60
   ·right
    unfold oo fq lA fL kL f8
    rw [if_pos h1,if_pos h1,if_pos h1,if_pos h2,if_pos h2,if_pos h2,if_pos h3,if_pos h3,if_pos h3]
    exact ⟨rfl,rfl,.inr (.inr rfl)⟩
   ·left
    have e1:kL y l t=iY y.off t:=by unfold kL f8; rw [if_pos h1,if_pos h2,if_neg h3]
    have e2:lA y l t=cp l ⟨t,iY y.off t⟩:=by unfold lA fL; rw [if_pos h1,if_pos h2,if_neg h3]
    have hl:l.ok=true:=(fW.1 h1).2
    have ha:=fJ (show (l.ok && dq.ok ⟨t,iY y.off t⟩)=true by rw [hl,ve h2]; rfl) h3
    exact ⟨h1,by rw [e1]; exact ha.2,by rw [e1,e2],by rw [e2,ha.1]⟩
  ·right
   unfold oo fq lA fL kL f8
   rw [if_pos h1,if_pos h1,if_pos h1,if_neg h2,if_neg h2,if_neg h2]
   exact ⟨rfl,rfl,.inr (.inl rfl)⟩
 ·right
  unfold oo fq lA fL kL f8
  rw [if_neg h1,if_neg h1,if_neg h1]
  exact ⟨rfl,rfl,.inl rfl⟩
theorem ko {l:Lg} (h:l.ok=true):((gf l).length:Int)=l.n:=by
 have:=(bY.1 h).2.2
 unfold gf eB
 rw [if_pos h,List.length_map]
 exact this
theorem rW.recs {y:Oc} {l:Lg} {t:ByteArray} (h:rW y l t):gf (lA y l t)=gf l++[⟨t,kL y l t⟩]:=by
 rw [h.log]
 exact uz h.code (jV _) (jV _)
noncomputable def gI:List dq→Oc→Lg→Option (Oc × Lg)
 | [],y,l=>some (y,l)
 | e :: es,y,l=>if kL y l e.c=e.r then gI es (oo y l e.c) (lA y l e.c) else none
theorem nU:∀ (m:List dq) (y:Oc) (l:Lg) (e:dq),gI (m++[e]) y l=(gI m y l).bind fun p=>if kL p.1 p.2 e.c=e.r then some (oo p.1 p.2 e.c,lA p.1 p.2 e.c) else none
 | [],y,l,e=>rfl
 | a :: m,y,l,e=>by
  rw [List.cons_append,gI,gI]
  split
  ·exact nU m _ _ e
  ·rfl
theorem mc:∀ (m:List dq) (y:Oc) (l:Lg) (i:Nat) {p:Oc × Lg},gI m y l=some p→jt m y l i=i+m.length
 | [],_,_,_,_,_=>rfl
 | e :: m,y,l,i,p,h=>by
  unfold gI at h
  unfold jt
  split at h
  ·rename_i he
   rw [if_pos he,mc m _ _ _ h,List.length_cons]; omega
  ·cases h
structure jW (n:Int) (y:Oc) (l:Lg):Prop where
 ok:oS y l=true
 play:gI (gf l) (f9 n) Lg.zero=some (y,l)
theorem jW.step {n:Int} {y:Oc} {l:Lg} (h:jW n y l) (t:ByteArray):jW n (oo y l t) (lA y l t):=by
 rcases nT y l t with hL | ⟨e1,e2,_⟩
 ·refine ⟨pC t h.ok, ?_⟩
  rw [hL.recs,nU,h.play,Option.bind_some,if_pos rfl]
 ·rw [e1,e2]; exact h
theorem jW.all {n:Int} {y:Oc} {l:Lg} (h:jW n y l) (hn:cc n 1 9999=true):kN n l=true∧(sw n l:Int)=l.n:=by
 have hl:=(fW.1 h.ok).2
 have h1:kN n l=true:=by unfold kN; rw [hn,hl]; rfl
 refine ⟨h1, ?_⟩
 unfold sw
 rw [if_pos h1,mc _ _ _ _ h.play,← ko hl]; omega
theorem rX (A B:Option Addr) (c d:Nat) (l:List aq) (w:World) (hA:fm w w.heap.size A l) (hB:fm w w.heap.size B l) :
  Calls vx 114 #[F A l.length c,F B l.length d] w fun e w'=>e=.returned (.bool true)∧Below w.heap.size w w':=by
 have hlA:=hA.big
 have hrA:=hA.el
 have hrB:=hB.el
 have za:((l.length:Int) != (l.length:Int))=false:=sP
 go_enter Tryz.func114,Tryz.ntmps114
 go_wp2
 go_loopw [5] (fun i wr=>∃ k:Nat,k≤l.length∧i=O U k∧(∃ q:ap w.heap.size w,wr=q.val)) (fun i _=>l.length - (intOf i).toNat)
 case atStart=>exact ⟨0,Nat.zero_le _,rfl,⟨ap.start _ _,rfl⟩⟩
 case round =>
  obtain ⟨k,hk,rfl,⟨q,rfl⟩⟩:=hrel
  by_cases vH:k < l.length
  ·obtain ⟨b,off,rfl,hb,hcell⟩:=hrA oM
   obtain ⟨b',off',rfl,hb',hcell'⟩:=hrB oM
   obtain ⟨c0,c1⟩:=hcell k vH
   obtain ⟨d0,d1⟩:=hcell' k vH
   obtain ⟨x,x9⟩ : ∃ x,x=l[k]:=⟨_,rfl⟩
   rw [← x9] at c0 c1 d0 d1
   clear x9 hcell hcell' hrA hrB
   obtain ⟨v0,v1⟩:=x
   simp only at c0 c1 d0 d1
   go_wp2
   refine bm _ kZ kZ ?_
   repeat (any_goals (first | go_big_quiet_step ((fail)) | (refine wpQuiet_step (fun K hK=>?_); go_simp; split <;> (refine hK _ ?_; clear hK K))))
   all_goals (refine wpQuiet_nil ?_; rintro _ ⟨q1,rfl⟩)
   go_wp2
   go_roundw
   case rel=>exact ⟨k+1,oM,by go_num,⟨q1,rfl⟩⟩
   case measure=>simp [intOf]; omega
  ·go_wp2
   go_ret
   exact ⟨rfl,q.below⟩
theorem pE (A B:Option Addr) (c d:Nat) (l:List ae) (w:World) (hA:dZ w w.heap.size A l) (hB:dZ w w.heap.size B l) :
  Calls vx 115 #[F A l.length c,F B l.length d] w fun e w'=>e=.returned (.bool true)∧Below w.heap.size w w':=by
 have hlA:=hA.big
 have hrA:=hA.el
 have hrB:=hB.el
 have za:((l.length:Int) != (l.length:Int))=false:=sP
 go_enter Tryz.func115,Tryz.ntmps115
 go_wp2
 go_loopw [5] (fun i wr=>∃ k:Nat,k≤l.length∧i=O U k∧(∃ q:ap w.heap.size w,wr=q.val)) (fun i _=>l.length - (intOf i).toNat)
 case atStart=>exact ⟨0,Nat.zero_le _,rfl,⟨ap.start _ _,rfl⟩⟩
 case round =>
  obtain ⟨k,hk,rfl,⟨q,rfl⟩⟩:=hrel
  by_cases vH:k < l.length
  ·obtain ⟨b,off,rfl,hb,hcell⟩:=hrA oM
   obtain ⟨b',off',rfl,hb',hcell'⟩:=hrB oM
   obtain ⟨c0,c1,c2⟩:=hcell k vH
   obtain ⟨d0,d1,d2⟩:=hcell' k vH
   obtain ⟨x,x9⟩ : ∃ x,x=l[k]:=⟨_,rfl⟩
   rw [← x9] at c0 c1 c2 d0 d1 d2
   clear x9 hcell hcell' hrA hrB
   obtain ⟨v0,v1,v2⟩:=x
   simp only at c0 c1 c2 d0 d1 d2
   go_wp2
   refine bm _ kZ kZ ?_
   repeat (any_goals (first | go_big_quiet_step ((fail)) | (refine wpQuiet_step (fun K hK=>?_); go_simp; split <;> (refine hK _ ?_; clear hK K))))
   all_goals (refine wpQuiet_nil ?_; rintro _ ⟨q1,rfl⟩)
   go_wp2
   go_roundw
   case rel=>exact ⟨k+1,oM,by go_num,⟨q1,rfl⟩⟩
   case measure=>simp [intOf]; omega
  ·go_wp2
   go_ret
   exact ⟨rfl,q.below⟩
set_option maxRecDepth 100000 in
theorem qO (x x' : aO) (w:World) (h:aP w w.heap.size x) (h' : aP w w.heap.size x') (hc:x.c=x'.c) :
  Calls vx 66 #[x.val,x'.val] w fun e w'=>e=.returned (.bool true)∧Below w.heap.size w w':=by
 obtain ⟨TA,t,tc,OA,o,oc,gt,sd,ms⟩:=x
 obtain ⟨TA',t',tc',OA',o',oc',gt',sd',ms'⟩:=x'
 simp only [aO.c,Oc.mk.injEq] at hc
 obtain ⟨rfl,rfl,rfl,rfl,rfl⟩:=hc
 have L1:=(ah.new w 40 #[F TA t.length tc,F OA o.length oc,O U gt,O U sd,O U ms]).alloc (.cells #[F TA' t.length tc',F OA' o.length oc',O U gt,O U sd,O U ms] 40)
 have L2:=ah.new1 w (.cells #[F TA t.length tc,F OA o.length oc,O U gt,O U sd,O U ms] 40) 40 #[F TA' t.length tc',F OA' o.length oc',O U gt,O U sd,O U ms]
 have b2:=(bZ w (.cells #[F TA t.length tc,F OA o.length oc,O U gt,O U sd,O U ms] 40)).alloc sP (.cells #[F TA' t.length tc',F OA' o.length oc',O U gt,O U sd,O U ms] 40)
 go_enter Tryz.func66,Tryz.ntmps66
 go_wp2_with fail
 generalize ((w.alloc (.cells #[F TA t.length tc,F OA o.length oc,O U gt,O U sd,O U ms] 40)).alloc (.cells #[F TA' t.length tc',F OA' o.length oc',O U gt,O U sd,O U ms] 40))=W at L1 L2 b2 ⊢
 have hR:=h.up b2 nR
 have wm:=h'.up b2 nR
 clear h h'
 refine (rX TA TA' tc tc' t W hR.ts wm.ts).mono ?_
 rintro e w1 ⟨rfl,vD⟩
 have M1:=L1.below vD L1.lt
 have M2:=L2.below vD L2.lt
 have c1:=M1.cell 1
 have d1:=M2.cell 1
 simp only [gz0,gz1] at c1 d1
 go_wp2_with fail
 refine (pE OA OA' oc oc' o w1 (hR.then vD).os (wm.then vD).os).mono ?_
 rintro e w2 ⟨rfl,vC⟩
 have N1:=M1.below vC M1.lt
 have N2:=M2.below vC M2.lt
 clear c1 d1
 have c2:=N1.cell 2
 have c3:=N1.cell 3
 have c4:=N1.cell 4
 have d2:=N2.cell 2
 have d3:=N2.cell 3
 have d4:=N2.cell 4
 simp only [gz0,gz1] at c2 c3 c4 d2 d3 d4
 go_wp2
 go_ret
 exact ⟨sP,av b2 (av vD vC)⟩
theorem qP (x x' : aO) (l:Lg) (w:World) (h:aP w w.heap.size x) (h' : aP w w.heap.size x') (hc:x.c=x'.c) :
  Calls vx 27 #[aI x l,aI x' l] w fun e w'=>e=.returned (.bool true)∧Below w.heap.size w w':=by
 obtain ⟨TA,t,tc,OA,o,oc,gt,sd,ms⟩:=x
 obtain ⟨TA',t',tc',OA',o',oc',gt',sd',ms'⟩:=x'
 obtain ⟨D,P,n⟩:=l
 simp only [aO.c,Oc.mk.injEq] at hc
 obtain ⟨rfl,rfl,rfl,rfl,rfl⟩:=hc
 have L1:=(ah.new w 42 #[F TA t.length tc,F OA o.length oc,O U gt,O U sd,O U ms,vw D,vw P,O U n]).alloc (.cells #[F TA' t.length tc',F OA' o.length oc',O U gt,O U sd,O U ms,vw D,vw P,O U n] 42)
 have L2:=ah.new1 w (.cells #[F TA t.length tc,F OA o.length oc,O U gt,O U sd,O U ms,vw D,vw P,O U n] 42) 42 #[F TA' t.length tc',F OA' o.length oc',O U gt,O U sd,O U ms,vw D,vw P,O U n]
 have b2:=(bZ w (.cells #[F TA t.length tc,F OA o.length oc,O U gt,O U sd,O U ms,vw D,vw P,O U n] 42)).alloc sP (.cells #[F TA' t.length tc',F OA' o.length oc',O U gt,O U sd,O U ms,vw D,vw P,O U n] 42)
 have x1:(D.toList == D.toList)=true:=sP
 have x2:(P.toList == P.toList)=true:=sP
 have x3:(n == n)=true:=sP
 go_enter Tryz.func27,Tryz.ntmps27
 go_wp2_with fail
 generalize ((w.alloc (.cells #[F TA t.length tc,F OA o.length oc,O U gt,O U sd,O U ms,vw D,vw P,O U n] 42)).alloc (.cells #[F TA' t.length tc',F OA' o.length oc',O U gt,O U sd,O U ms,vw D,vw P,O U n] 42))=W at L1 L2 b2 ⊢
 refine (qO ⟨TA,t,tc,OA,o,oc,gt,sd,ms⟩ ⟨TA',t,tc',OA',o,oc',gt,sd,ms⟩ W (h.up b2 nR) (h'.up b2 nR) rfl).mono ?_
 rintro e w1 ⟨rfl,vD⟩
 have M1:=L1.below vD L1.lt
 have M2:=L2.below vD L2.lt
 have c5:=M1.cell 5
 have c6:=M1.cell 6
 have c7:=M1.cell 7
 have d5:=M2.cell 5
 have d6:=M2.cell 6
 have d7:=M2.cell 7
 simp only [gz0,gz1] at c5 c6 c7 d5 d6 d7
 clear M1 M2 L1 L2 h h'
 go_wp2
 go_ret
 exact ⟨sP,av b2 vD⟩
end Go.Proofs.YtoeoimhemojdeaaGreatDoor
namespace Go.Proofs.YtoeoimhemojdeaaGreatDoor
open Go.ChangeShapes Go.WideShapes Go.ChangeAt Go.RowKit Go.Deep
section
variable {H:Type} {enc:TypeId × Value→H} {P:Program} {w:World} {base:Nat} {spare:Nat→Bool} {held:Bool}
theorem uR {t:TypeId} {n:Nat} {v:Value} {x:DataW H × List MemPlace} (ht:P.underlying t=some (.int .u8)) (h:DataW.trod enc P w base spare held n t [v]=some x) :
  ∃ b:UInt8,v=.int .u8 (b.toNat:Int):=by
 obtain ⟨m,e,_,hw⟩:=DataW.trod_int ht h
 have hb:0≤m∧m≤255:=by
  simp [Lit.wf,IntKind.min,IntKind.max,IntKind.signed,IntKind.bits] at hw
  omega
 refine ⟨UInt8.ofNat m.toNat, ?_⟩
 have e' : v=.int .u8 m:=by simpa using e
 rw [e']
 congr 1
 have:(UInt8.ofNat m.toNat).toNat=m.toNat:=by
  rw [UInt8.toNat_ofNat']; omega
 rw [this]; omega
theorem rY {t e:TypeId} {b0:Nat} {r:Reach} {v:Value} {d:DataW H} {p:List MemPlace} (ht:P.underlying t=some (.slice e)) (he:P.underlying e=some (.int .u8)) (hC:P.cellsOf e=1)
  (hv:Value.okWide P w r b0 t v) (h:DataW.Trod enc P w base spare held t v d p):∃ A c,∃ l:List UInt8,v=.slice A l.length c∧gZ w w.heap.size A l:=by
 obtain ⟨A,len,cap,rfl⟩:=okWide_slice ht hv
 obtain ⟨n,hn⟩:=h
 obtain ⟨A',len',cap',e',css,hl,hS,wU⟩:=qv ht hC oM hn
 injection e' with e1 e2 e3
 subst e1; subst e2; subst e3
 obtain ⟨l,Er,JE⟩:=lR (fun b:UInt8=>[Value.int .u8 (b.toNat:Int)]) css (fun cs hc=>by
  obtain ⟨vG,m,y,hy⟩:=wU cs hc
  obtain ⟨u,rfl⟩ : ∃ u,cs = [u]:=by match cs,vG with | [u],_=>exact ⟨u,rfl⟩
  obtain ⟨b,rfl⟩:=uR he hy
  exact ⟨b,rfl⟩)
 refine ⟨A,cap,l,by rw [JE,hl], ?_⟩
 rw [Er] at hS
 have key:∀ l:List UInt8,tI l=l.flatMap (fun b:UInt8=>[Value.int .u8 (b.toNat:Int)]):=fun l=>by
  induction l with
  | nil=>rfl
  | cons a l ih=>rw [List.flatMap_cons,← ih]; rfl
 unfold gZ
 rw [key,JE,hl]
 exact hS
end
end Go.Proofs.YtoeoimhemojdeaaGreatDoor
