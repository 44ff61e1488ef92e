/- Lemmas. -/
import Derived.Laws.OwnMore
import Derived.Test.YtoeoimhemojdeaaGreatDoorFs21
import Derived.Test.YtoeoimhemojdeaaGreatDoorFs29

set_option linter.unusedVariables false
set_option linter.unusedSimpArgs false
set_option maxHeartbeats 8000000
open Go.Value renaming int → O, slice → F, string → wG
open Go.IntKind renaming i64 → U
open Go.Proofs.Tryz renaming prog → wH

namespace Go.Proofs.YtoeoimhemojdeaaGreatDoor
open Go.RowKit
set_option maxRecDepth 100000 in
theorem iP (x:aO) (l:Lg) (y6:wl x) (g:Nat) (A:Option Addr) (bs:List UInt8) (cap m:Nat) (w W:World) (hm:m≤700000000) (ht:x.t.length≤100000) (ho:x.o.length≤100000) (E0:eZ w W g A bs cap m) (hR:aQ W W.heap.size x) (DT:∀ b,x.TA.map (·.block)=some b→b ≠ g) (Ie:∀ b,x.OA.map (·.block)=some b→b ≠ g) :
  Calls wH 64 #[.pointer (some ⟨g,0,none⟩),aJ x l] W fun e w'=>∃ s:ByteArray,e=.returned (wG s)∧s.size≤500∧eZ w w' g A bs cap (m+200)∧W.grownBy w' (some g):=by
 have hB:=E0.lt
 have hwW:=E0.gr.size
 have wO:Below W.heap.size W (W.alloc (.cells #[F x.TA x.t.length x.tc,F x.OA x.o.length x.oc,O U x.gt,O U x.sd,O U x.ms,wG l.D,wG l.P,O U l.n] 42)):=bZ W (.cells #[F x.TA x.t.length x.tc,F x.OA x.o.length x.oc,O U x.gt,O U x.sd,O U x.ms,wG l.D,wG l.P,O U l.n] 42)
 have L3:=ai.new W 42 #[F x.TA x.t.length x.tc,F x.OA x.o.length x.oc,O U x.gt,O U x.sd,O U x.ms,wG l.D,wG l.P,O U l.n]
 have E1:=E0.alloc (.cells #[F x.TA x.t.length x.tc,F x.OA x.o.length x.oc,O U x.gt,O U x.sd,O U x.ms,wG l.D,wG l.P,O U l.n] 42)
 have G1:W.grownBy (W.alloc (.cells #[F x.TA x.t.length x.tc,F x.OA x.o.length x.oc,O U x.gt,O U x.sd,O U x.ms,wG l.D,wG l.P,O U l.n] 42)) (some g):=cn wO _
 have R1:=hR.up wO nR
 clear wO E0 hR
 obtain ⟨c0,c1,c2,c3,c4,c5,c6,c7⟩:=cells8 L3
 go_enter Tryz.func64,Tryz.ntmps64
 go_wp2_with fail
 generalize (W.alloc (.cells #[F x.TA x.t.length x.tc,F x.OA x.o.length x.oc,O U x.gt,O U x.sd,O U x.ms,wG l.D,wG l.P,O U l.n] 42))=W1 at E1 L3 G1 R1 c0 c1 c2 c3 c4 c5 c6 c7 ⊢
 refine (jQ x y6 g A bs cap m w W1 oM ht ho E1 R1 DT Ie).mono ?_
 rintro e W2 ⟨s,rfl,ML,E2,gr2⟩
 have G2:=aA G1 gr2
 clear c0 c1 c2 c3 c4 c5 c6 c7 L3 G1 gr2 E1 R1
 obtain ⟨wN,wM,wZ,wV⟩:=ML
 have Iq:=jZ wM
 have Lp:=jZ wZ
 have MM:=jZ wV
 clear wN wM wZ wV
 have L5:=ai.new W2 112 #[O U s.kind,O U s.stamp,O U s.person,O U s.value]
 have E3:=E2.alloc (.cells #[O U s.kind,O U s.stamp,O U s.person,O U s.value] 112)
 have G3:W.grownBy (W2.alloc (.cells #[O U s.kind,O U s.stamp,O U s.person,O U s.value] 112)) (some g):=di G2 _
 have yy:g < W2.heap.size:=by have:=G2.size; omega
 go_wp2_with fail
 generalize (W2.alloc (.cells #[O U s.kind,O U s.stamp,O U s.person,O U s.value] 112))=W3 at L5 E3 G3 ⊢
 generalize W2.heap.size=g5 at L5 yy ⊢
 clear E2 G2
 refine al (fun _=>(fun W9=>Below W3.heap.size W3 W9)) (fun _ w1 w2=>Below w1.heap.size w1 w2) kZ kZ kZ jB.drew ?_
 simp only [ax,Act.put,sA,gs0,gs1,Nat.zero_add,Nat.reduceAdd]
 refine aa _ vp0 ?_
 refine aa _ (vp1c1 0 L5 1) ?_
 refine sm0 [] (fun v _=>∃ t:ByteArray,v=wG t∧t.size≤101) (fun vs L9 w9 wK wI hB K9 wJ=>?_) ?_
 next =>
  have d1:=fe hB 1
  simp only [d1] at wJ ⊢
  simp only [Act.put,sA,gs0,gs1] at wJ
  go_simp
  refine (lf _ _ Iq.out.1 Iq.out.2).mono ?_
  rintro en w8 ⟨t8,rfl,Ck,wL⟩
  exact wJ _ _ _ rfl ⟨t8,rfl,Ck⟩ (wI.trans (wL.mono wI.size)) (wL)
 refine aa _ vp0 ?_
 refine aa _ (vp1c1 3 L5 2) ?_
 refine sm0 [] (fun v _=>∃ t:ByteArray,v=wG t∧t.size≤101) (fun vs L9 w9 wK wI hB K9 wJ=>?_) ?_
 next =>
  have d4:=fe hB 4
  simp only [d4] at wJ ⊢
  simp only [Act.put,sA,gs0,gs1] at wJ
  go_simp
  refine (lf _ _ Lp.out.1 Lp.out.2).mono ?_
  rintro en w8 ⟨t8,rfl,Ck,wL⟩
  exact wJ _ _ _ rfl ⟨t8,rfl,Ck⟩ (wI.trans (wL.mono wI.size)) (wL)
 refine aa _ vp0 ?_
 refine aa _ (vp1c1 6 L5 3) ?_
 refine sm0 [] (fun v _=>∃ z:Int,v=O U z∧Bd z) (fun vs L9 w9 wK wI hB K9 wJ=>?_) ?_
 next =>
  have d7:=fe hB 7
  simp only [d7] at wJ ⊢
  simp only [Act.put,sA,gs0,gs1] at wJ
  go_simp
  refine (pU _ _ _).mono ?_
  rintro en w8 ⟨⟨x8,rfl,yI⟩,wL⟩
  exact wJ _ _ _ rfl ⟨x8,rfl,by rcases yI with rfl | rfl; exact ⟨dD,dD⟩; exact MM.out⟩ (wI.trans (wL.mono wI.size)) (wL)
 refine sm0 [] (fun v _=>∃ t:ByteArray,v=wG t∧t.size≤101) (fun vs L9 w9 wK wI hB K9 wJ=>?_) ?_
 next =>
  simp only [Act.put,sA,gs0,gs1] at wJ
  obtain ⟨z8,e8,zb8⟩:=fs hB 8
  simp only [e8] at wJ ⊢
  go_simp
  refine (lf _ _ zb8.1 zb8.2).mono ?_
  rintro en w8 ⟨t8,rfl,Ck,wL⟩
  exact wJ _ _ _ rfl ⟨t8,rfl,Ck⟩ (wI.trans (wL.mono wI.size)) (wL)
 refine sm0 [] (fun v _=>∃ t:ByteArray,v=wG t∧t.size≤101) (fun vs L9 w9 wK wI hB K9 wJ=>?_) ?_
 next =>
  simp only [Act.put,sA,gs0,gs1] at wJ
  obtain ⟨t8,e8,Ck⟩:=fs hB 2
  simp only [e8] at wJ ⊢
  go_simp
  exact wJ _ _ _ rfl ⟨t8,rfl,Ck⟩ wI jB
 refine sm0 [] (fun v _=>∃ t:ByteArray,v=wG t∧t.size≤101) (fun vs L9 w9 wK wI hB K9 wJ=>?_) ?_
 next =>
  simp only [Act.put,sA,gs0,gs1] at wJ
  obtain ⟨t8,e8,Ck⟩:=fs hB 5
  simp only [e8] at wJ ⊢
  go_simp
  exact wJ _ _ _ rfl ⟨t8,rfl,Ck⟩ wI jB
 refine sm0 [] (fun v _=>∃ t:ByteArray,v=wG t∧t.size≤101) (fun vs L9 w9 wK wI hB K9 wJ=>?_) ?_
 next =>
  simp only [Act.put,sA,gs0,gs1] at wJ
  obtain ⟨t8,e8,Ck⟩:=fs hB 9
  simp only [e8] at wJ ⊢
  go_simp
  exact wJ _ _ _ rfl ⟨t8,rfl,Ck⟩ wI jB
 refine ar fun vs L9 W4 wS wI hB=>?_
 obtain ⟨kt,ek,hk⟩:=hB 10 _ rfl rfl dD
 obtain ⟨pt,ep,hp⟩:=hB 11 _ rfl rfl dD
 obtain ⟨vt,ev,hv⟩:=hB 12 _ rfl rfl dD
 simp only [ek,ep,ev]
 clear hB wS ek ep ev
 have E4:=E3.below wI
 have L5:=L5.below wI L5.lt
 have G4:=aA G3 (cn wI _)
 clear wI E3 G3
 have z0:(⟨#[103,101,116,32]⟩ : ByteArray).size=4:=rfl
 have z1:(⟨#[115,104,111,119,32]⟩ : ByteArray).size=5:=rfl
 have z2:(⟨#[98,97,99,107,32]⟩ : ByteArray).size=5:=rfl
 have z3:(⟨#[115,101,108,108,32]⟩ : ByteArray).size=5:=rfl
 have z4:(⟨#[109,105,115,115,32]⟩ : ByteArray).size=5:=rfl
 have z5:(⟨#[109,111,118,101,32]⟩ : ByteArray).size=5:=rfl
 have z6:(⟨#[32]⟩ : ByteArray).size=1:=rfl
 have z7:(⟨#[119,105,116,104,32]⟩ : ByteArray).size=5:=rfl
 have z8:(⟨#[116,101,120,116,32]⟩ : ByteArray).size=5:=rfl
 have k0:=L5.cell 0
 simp only [List.getElem?_cons_zero] at k0
 go_wp2_with fail
 refine (dF E4 6 oM oM).mono ?_
 rintro e W5 ⟨i,rfl,hi,E5,gr5⟩
 have K0:=L5.kept gr5 iE
 have k1:=K0.cell 0
 simp only [List.getElem?_cons_zero] at k1
 have HG:=jZ (aA G4 gr5)
 have HE:=jZ (E5.mono (show _≤m+180 by omega))
 clear E4 G4 E5 gr5 L5 K0 k0
 have hi' : (i=0 ∨ i=1 ∨ i=2 ∨ i=3) ∨ i=4 ∨ i=5:=oM
 clear hi
 rcases hi' with hi | rfl | rfl
 ·have hk:s.kind=1 ∨ s.kind=2 ∨ s.kind=3 ∨ s.kind=4 ∨ s.kind=5 ∨ (¬ s.kind=1∧¬ s.kind=2∧¬ s.kind=3∧¬ s.kind=4∧¬ s.kind=5):=oM
  generalize s.kind=sk at k1 hk
  rcases hk with rfl | rfl | rfl | rfl | rfl | ⟨n1,n2,n3,n4,n5⟩
  ·rcases hi with rfl | rfl | rfl | rfl
   all_goals
    go_wp2
    go_ret
    exact ⟨_,rfl,by first | omega | (simp only [bg]; omega),HE.out.mono oM,HG.out⟩
  ·rcases hi with rfl | rfl | rfl | rfl
   all_goals
    go_wp2
    go_ret
    exact ⟨_,rfl,by first | omega | (simp only [bg]; omega),HE.out.mono oM,HG.out⟩
  ·rcases hi with rfl | rfl | rfl | rfl
   all_goals
    go_wp2
    go_ret
    exact ⟨_,rfl,by first | omega | (simp only [bg]; omega),HE.out.mono oM,HG.out⟩
  ·rcases hi with rfl | rfl | rfl | rfl
   all_goals
    go_wp2
    go_ret
    exact ⟨_,rfl,by first | omega | (simp only [bg]; omega),HE.out.mono oM,HG.out⟩
  ·rcases hi with rfl | rfl | rfl | rfl
   all_goals
    go_wp2
    go_ret
    exact ⟨_,rfl,by first | omega | (simp only [bg]; omega),HE.out.mono oM,HG.out⟩
  ·have f1:(sk == 1)=false:=by simp [n1]
   have f2:(sk == 2)=false:=by simp [n2]
   have f3:(sk == 3)=false:=by simp [n3]
   have f4:(sk == 4)=false:=by simp [n4]
   have f5:(sk == 5)=false:=by simp [n5]
   clear n1 n2 n3 n4 n5
   rcases hi with rfl | rfl | rfl | rfl
   all_goals
    go_wp2
    go_ret
    exact ⟨_,rfl,by first | omega | (simp only [bg]; omega),HE.out.mono oM,HG.out⟩
 ·have E6:=HE.out.alloc (.cells #[wG (⟨#[105,110]⟩),wG (⟨#[111,117,116]⟩),wG (⟨#[103,111,116]⟩),wG (⟨#[115,111,108,100]⟩),wG (⟨#[109,105,115,115,101,100]⟩),wG (⟨#[98,117,115,105,101,115,116]⟩),wG (⟨#[97,116,32,53]⟩),wG (⟨#[119,105,116,104,32]⟩++kt),wG (⟨#[116,101,120,116,32]⟩++kt)] 9)
  have L6:=ai.new W5 9 #[wG (⟨#[105,110]⟩),wG (⟨#[111,117,116]⟩),wG (⟨#[103,111,116]⟩),wG (⟨#[115,111,108,100]⟩),wG (⟨#[109,105,115,115,101,100]⟩),wG (⟨#[98,117,115,105,101,115,116]⟩),wG (⟨#[97,116,32,53]⟩),wG (⟨#[119,105,116,104,32]⟩++kt),wG (⟨#[116,101,120,116,32]⟩++kt)]
  have Ir:=HE.out.lt
  have GM:=jZ (di HG.out (.cells #[wG (⟨#[105,110]⟩),wG (⟨#[111,117,116]⟩),wG (⟨#[103,111,116]⟩),wG (⟨#[115,111,108,100]⟩),wG (⟨#[109,105,115,115,101,100]⟩),wG (⟨#[98,117,115,105,101,115,116]⟩),wG (⟨#[97,116,32,53]⟩),wG (⟨#[119,105,116,104,32]⟩++kt),wG (⟨#[116,101,120,116,32]⟩++kt)] 9))
  have GN:=jZ (kD E6 W5.heap.size 9 [⟨#[105,110]⟩,⟨#[111,117,116]⟩,⟨#[103,111,116]⟩,⟨#[115,111,108,100]⟩,⟨#[109,105,115,115,101,100]⟩,⟨#[98,117,115,105,101,115,116]⟩,⟨#[97,116,32,53]⟩,⟨#[119,105,116,104,32]⟩++kt,⟨#[116,101,120,116,32]⟩++kt] rfl (by simp only [uY,List.map_cons,List.map_nil]; exact L6) oM oM oM oM)
  clear E6 L6
  go_wp2_with fail
  refine GN.out.mono ?_
  rintro e W6 ⟨T,rfl,hT,E7,gr7⟩
  have MN:T.size≤200:=by
   simp only [mC,mN,oF] at hT
   rcases hT with rfl | rfl | rfl | rfl | rfl | rfl | rfl | rfl | rfl <;> first | decide | (simp only [bg]; omega)
  have HE:=jZ (E7.mono (show _≤m+190 by omega))
  have HG:=jZ (aA GM.out gr7)
  clear hT E7 gr7 GN GM
  go_wp2
  go_ret
  exact ⟨_,rfl,by first | omega | (simp only [bg]; omega),HE.out.mono oM,HG.out⟩
 ·have E6:=HE.out.alloc (.cells #[wG (⟨#[]⟩),wG (⟨#[119,104,97,116]⟩),wG (⟨#[103,101,116,32,49]⟩),wG (⟨#[115,104,111,119,32,120,32,49,32,49]⟩),wG (⟨#[109,105,115,115,32,49,32,48]⟩),wG (⟨#[97,116]⟩),wG (⟨#[97,116,32,48]⟩),wG (⟨#[97,64,98]⟩),wG (⟨#[105,110,32,49]⟩),wG (⟨#[98,97,99,107,32,49,32,49,32,49]⟩),wG (⟨#[116,101,120,116,32,45,49]⟩)] 9)
  have L6:=ai.new W5 9 #[wG (⟨#[]⟩),wG (⟨#[119,104,97,116]⟩),wG (⟨#[103,101,116,32,49]⟩),wG (⟨#[115,104,111,119,32,120,32,49,32,49]⟩),wG (⟨#[109,105,115,115,32,49,32,48]⟩),wG (⟨#[97,116]⟩),wG (⟨#[97,116,32,48]⟩),wG (⟨#[97,64,98]⟩),wG (⟨#[105,110,32,49]⟩),wG (⟨#[98,97,99,107,32,49,32,49,32,49]⟩),wG (⟨#[116,101,120,116,32,45,49]⟩)]
  have Ir:=HE.out.lt
  have GM:=jZ (di HG.out (.cells #[wG (⟨#[]⟩),wG (⟨#[119,104,97,116]⟩),wG (⟨#[103,101,116,32,49]⟩),wG (⟨#[115,104,111,119,32,120,32,49,32,49]⟩),wG (⟨#[109,105,115,115,32,49,32,48]⟩),wG (⟨#[97,116]⟩),wG (⟨#[97,116,32,48]⟩),wG (⟨#[97,64,98]⟩),wG (⟨#[105,110,32,49]⟩),wG (⟨#[98,97,99,107,32,49,32,49,32,49]⟩),wG (⟨#[116,101,120,116,32,45,49]⟩)] 9))
  have GN:=jZ (kD E6 W5.heap.size 11 [⟨#[]⟩,⟨#[119,104,97,116]⟩,⟨#[103,101,116,32,49]⟩,⟨#[115,104,111,119,32,120,32,49,32,49]⟩,⟨#[109,105,115,115,32,49,32,48]⟩,⟨#[97,116]⟩,⟨#[97,116,32,48]⟩,⟨#[97,64,98]⟩,⟨#[105,110,32,49]⟩,⟨#[98,97,99,107,32,49,32,49,32,49]⟩,⟨#[116,101,120,116,32,45,49]⟩] rfl (by simp only [uY,List.map_cons,List.map_nil]; exact L6) oM oM oM oM)
  clear E6 L6
  go_wp2_with fail
  refine GN.out.mono ?_
  rintro e W6 ⟨T,rfl,hT,E7,gr7⟩
  have MN:T.size≤200:=by
   simp only [mC,mN,oF] at hT
   rcases hT with rfl | rfl | rfl | rfl | rfl | rfl | rfl | rfl | rfl | rfl | rfl <;> decide
  have HE:=jZ (E7.mono (show _≤m+190 by omega))
  have HG:=jZ (aA GM.out gr7)
  clear hT E7 gr7 GN GM
  go_wp2
  go_ret
  exact ⟨_,rfl,by first | omega | (simp only [bg]; omega),HE.out.mono oM,HG.out⟩
theorem vZ:(wH.info? 5).map (fun i=>(i.zero,i.size,i.bytes))=some (some (.int .u8 0),1,1):=kZ
theorem uj (n:Nat) (hn:n≤1000000) (W:World):∃ W' z,z.size=n∧Below W.heap.size W W'∧(Instr.makeSlice 54 (O U (n:Int)) (O U (n:Int))).run wH W=.ok (F (some ⟨W.heap.size,0,none⟩) n n) W' ∧
  (convert 54 9 (F (some ⟨W.heap.size,0,none⟩) n n)).run wH W'=.ok (wG z) W':=by
 have hm:=jq (P:=wH) 54 5 _ 1 1 Tryz.underlying54 vZ n oM oM W
 refine ⟨_,⟨(List.replicate n 0).toArray⟩,by simp [ByteArray.size],bZ W _,hm, ?_⟩
 have hL:=ai.new W 5 (madeCells #[.int .u8 0] (n * 1))
 have hf:=kG (W:=W.alloc (.cells (madeCells #[.int .u8 0] (n * 1)) 5)) (g:=W.heap.size) (l:=List.replicate n 0) (cap:=n) (fun j hj=>by
  rw [List.length_replicate] at hj
  rw [hL.cell,toList_madeCells_one,List.getElem?_replicate,if_pos oM,List.getD_eq_getElem?_getD,List.getElem?_replicate,if_pos hj]
  rfl)
 rw [List.length_replicate] at hf
 exact hf
theorem o4 (g:Nat) (A:Option Addr) (bs:List UInt8) (cap m:Nat) (w W:World) (hm:m≤800000000) (E0:eZ w W g A bs cap m) :
  Calls wH 74 #[.pointer (some ⟨g,0,none⟩)] W fun e w'=>∃ r:dA,e=.returned r.val∧(r.c.size≤20∧r.r.size≤20)∧eZ w w' g A bs cap (m+8)∧W.grownBy w' (some g):=by
 have hgW:=E0.lt
 have hwW:=E0.gr.size
 go_enter Tryz.func74,Tryz.ntmps74
 go_wp2_with fail
 have E1:=(E0.alloc (.cells #[wG ⟨#[]⟩,wG ⟨#[]⟩] 62)).alloc (.cells #[wG ⟨#[99,111,117,110,116]⟩,wG ⟨#[115,111,114,116,32,109,101,114,103,101]⟩,wG ⟨#[120]⟩,wG ⟨#[115,101,108,101,99,116,32,50]⟩,wG ⟨#[48,32,49]⟩] 9)
 have L4:=(ai.new W 62 #[wG ⟨#[]⟩,wG ⟨#[]⟩]).alloc (.cells #[wG ⟨#[99,111,117,110,116]⟩,wG ⟨#[115,111,114,116,32,109,101,114,103,101]⟩,wG ⟨#[120]⟩,wG ⟨#[115,101,108,101,99,116,32,50]⟩,wG ⟨#[48,32,49]⟩] 9)
 have Li:=ai.newB W (.cells #[wG ⟨#[]⟩,wG ⟨#[]⟩] 62) 9 #[wG ⟨#[99,111,117,110,116]⟩,wG ⟨#[115,111,114,116,32,109,101,114,103,101]⟩,wG ⟨#[120]⟩,wG ⟨#[115,101,108,101,99,116,32,50]⟩,wG ⟨#[48,32,49]⟩]
 have G1:=aA (World.grownBy_alloc W (.cells #[wG ⟨#[]⟩,wG ⟨#[]⟩] 62) (some g)) (World.grownBy_alloc _ (.cells #[wG ⟨#[99,111,117,110,116]⟩,wG ⟨#[115,111,114,116,32,109,101,114,103,101]⟩,wG ⟨#[120]⟩,wG ⟨#[115,101,108,101,99,116,32,50]⟩,wG ⟨#[48,32,49]⟩] 9) (some g))
 generalize (W.alloc (.cells #[wG ⟨#[]⟩,wG ⟨#[]⟩] 62)).alloc (.cells #[wG ⟨#[99,111,117,110,116]⟩,wG ⟨#[115,111,114,116,32,109,101,114,103,101]⟩,wG ⟨#[120]⟩,wG ⟨#[115,101,108,101,99,116,32,50]⟩,wG ⟨#[48,32,49]⟩] 9)=W1 at E1 L4 Li G1 ⊢
 have HG:=jZ G1; clear G1 E0
 obtain ⟨g4,xC⟩ : ∃ g4,W.heap.size=g4:=⟨_,rfl⟩
 have h4:g < g4∧w.heap.size≤g4:=oM
 rw [xC] at L4 Li
 rw [xC]
 have HQ:=jZ xC
 clear xC hgW hwW
 refine (kD E1 (g4+1) 5 [⟨#[99,111,117,110,116]⟩,⟨#[115,111,114,116,32,109,101,114,103,101]⟩,⟨#[120]⟩,⟨#[115,101,108,101,99,116,32,50]⟩,⟨#[48,32,49]⟩] rfl Li oM oM oM oM).mono ?_
 rintro e W2 ⟨x1,rfl,EY,E2,gr⟩
 have MO:x1.size≤20:=by
  simp only [mC,mN,oF] at EY
  rcases EY with rfl | rfl | rfl | rfl | rfl <;> decide
 replace L4:=L4.kept gr iE
 replace HG:=jZ (aA HG.out gr)
 clear gr E1 Li EY
 go_wp2_with fail
 have Li:=ai.new W2 9 #[wG ⟨#[]⟩,wG ⟨#[51]⟩,wG ⟨#[63]⟩,wG ⟨#[97,64,98]⟩,wG ⟨#[51,32,49,32,50]⟩]
 have Ei:=E2.alloc (.cells #[wG ⟨#[]⟩,wG ⟨#[51]⟩,wG ⟨#[63]⟩,wG ⟨#[97,64,98]⟩,wG ⟨#[51,32,49,32,50]⟩] 9)
 replace L4:=L4.alloc (.cells #[wG ⟨#[]⟩,wG ⟨#[51]⟩,wG ⟨#[63]⟩,wG ⟨#[97,64,98]⟩,wG ⟨#[51,32,49,32,50]⟩] 9)
 replace HG:=jZ (aA HG.out (World.grownBy_alloc W2 (.cells #[wG ⟨#[]⟩,wG ⟨#[51]⟩,wG ⟨#[63]⟩,wG ⟨#[97,64,98]⟩,wG ⟨#[51,32,49,32,50]⟩] 9) (some g)))
 have hl:=E2.lt
 generalize W2.alloc (.cells #[wG ⟨#[]⟩,wG ⟨#[51]⟩,wG ⟨#[63]⟩,wG ⟨#[97,64,98]⟩,wG ⟨#[51,32,49,32,50]⟩] 9)=Wi at Li Ei HG L4 ⊢
 generalize W2.heap.size=gi at Li hl ⊢
 refine (kD Ei gi 5 [⟨#[]⟩,⟨#[51]⟩,⟨#[63]⟩,⟨#[97,64,98]⟩,⟨#[51,32,49,32,50]⟩] rfl Li oM oM oM oM).mono ?_
 rintro e W3 ⟨x2,rfl,EZ,E3,gr⟩
 have MP:x2.size≤20:=by
  simp only [mC,mN,oF] at EZ
  rcases EZ with rfl | rfl | rfl | rfl | rfl <;> first | decide | omega
 replace L4:=L4.kept gr iE
 replace HG:=jZ (aA HG.out gr)
 clear gr Ei Li hl E2 EZ
 go_wp2_with fail
 have E6:=E3.alloc (.cells #[wG x1,wG x2] 62)
 have L5:=ai.new W3 62 #[wG x1,wG x2]
 have h45:=L4.lt
 replace L4:=L4.alloc (.cells #[wG x1,wG x2] 62)
 replace HG:=jZ (aA HG.out (World.grownBy_alloc W3 (.cells #[wG x1,wG x2] 62) (some g)))
 generalize W3.alloc (.cells #[wG x1,wG x2] 62)=W6 at E6 L5 L4 HG ⊢
 generalize W3.heap.size=g5 at L5 h45 ⊢
 clear E3
 refine (dF E6 24 oM oM).mono ?_
 rintro e W7 ⟨x,rfl,hx,E7,gr⟩
 replace L4:=L4.kept gr iE
 replace L5:=L5.kept gr iE
 replace HG:=jZ (aA HG.out gr)
 have Al:w.heap.size≤g5:=oM
 clear gr E6
 have hc:x=0 ∨ x=1 ∨ 2≤x:=oM
 clear hx
 rcases hc with rfl | rfl | h5
 ·obtain ⟨W8,z,hz,wL,GO,MQ⟩:=uj 3 oM W7
  have GO:(Instr.makeSlice 54 (O U 3) (O U 3)).run wH W7=.ok (F (some ⟨W7.heap.size,0,none⟩) 3 3) W8:=GO
  have E8:=E7.below wL
  replace L4:=L4.below wL L4.lt
  replace L5:=L5.below wL L5.lt
  replace HG:=jZ (aA HG.out (cn wL (some g)))
  clear wL
  go_upto_region 4 with fail
  go_wp2_with fail
  clear GO MQ
  have Li:=ai.new W8 9 #[wG ⟨#[]⟩,wG ⟨#[97,64,98]⟩,wG ⟨#[97,35]⟩,wG ⟨#[10]⟩,wG z]
  have Ei:=E8.alloc (.cells #[wG ⟨#[]⟩,wG ⟨#[97,64,98]⟩,wG ⟨#[97,35]⟩,wG ⟨#[10]⟩,wG z] 9)
  replace L4:=L4.alloc (.cells #[wG ⟨#[]⟩,wG ⟨#[97,64,98]⟩,wG ⟨#[97,35]⟩,wG ⟨#[10]⟩,wG z] 9)
  replace L5:=L5.alloc (.cells #[wG ⟨#[]⟩,wG ⟨#[97,64,98]⟩,wG ⟨#[97,35]⟩,wG ⟨#[10]⟩,wG z] 9)
  replace HG:=jZ (aA HG.out (World.grownBy_alloc W8 (.cells #[wG ⟨#[]⟩,wG ⟨#[97,64,98]⟩,wG ⟨#[97,35]⟩,wG ⟨#[10]⟩,wG z] 9) (some g)))
  have hl:=E8.lt
  generalize W8.alloc (.cells #[wG ⟨#[]⟩,wG ⟨#[97,64,98]⟩,wG ⟨#[97,35]⟩,wG ⟨#[10]⟩,wG z] 9)=Wi at Li Ei HG L4 L5 ⊢
  generalize W8.heap.size=gi at Li hl ⊢
  refine (kD Ei gi 5 [⟨#[]⟩,⟨#[97,64,98]⟩,⟨#[97,35]⟩,⟨#[10]⟩,z] rfl Li oM oM oM oM).mono ?_
  rintro e W9 ⟨y,rfl,Fa,E9,gr⟩
  have MR:y.size≤20:=by
   simp only [mC,mN,oF] at Fa
   rcases Fa with rfl | rfl | rfl | rfl | rfl <;> first | decide | omega
  replace L4:=L4.kept gr iE
  replace L5:=L5.kept gr iE
  replace HG:=jZ (aA HG.out gr)
  clear gr Ei Li hl E8 Fa
  have HE:=jZ E9
  clear E9 hz E7
  obtain ⟨d0,d1⟩:=cells2 L5
  obtain ⟨e0,e1⟩:=cells2 L4
  obtain ⟨f0,f1⟩:=frz2 L4
  obtain ⟨p0,p1⟩:=frz2 L5
  have HL:=jZ (And.intro h4 (And.intro h45 Al))
  clear h4 Al
  repeat (first | go_values | go_skip | go_guarded | go_step | go_upon | simp only [])
  refine bodyPost_ret (v:=(dA.mk y x2).val) (by simp [results,Tryz.results74,go_sem, *]) rfl ⟨⟨y,x2⟩,rfl,⟨by assumption,by assumption⟩, ?_, ?_⟩
  ·exact ((HE.out.wrote (h:=g5) (ab jG) HL.out.2.2 (by have:=HL.out; omega)).wrote (h:=g4) (ab (ab jG)) HL.out.1.2 HL.out.1.1).mono oM
  ·exact bn (bn HG.out (ab (g:=g5) jG) (by have:=HL.out; have:=HQ.out; omega)) (ab (g:=g4) (ab jG)) (by have:=HQ.out; omega)
 ·go_wp2_with fail
  have Li:=ai.new W7 9 #[wG ⟨#[35]⟩,wG ⟨#[10]⟩,wG ⟨#[127]⟩]
  have Ei:=E7.alloc (.cells #[wG ⟨#[35]⟩,wG ⟨#[10]⟩,wG ⟨#[127]⟩] 9)
  replace L4:=L4.alloc (.cells #[wG ⟨#[35]⟩,wG ⟨#[10]⟩,wG ⟨#[127]⟩] 9)
  replace L5:=L5.alloc (.cells #[wG ⟨#[35]⟩,wG ⟨#[10]⟩,wG ⟨#[127]⟩] 9)
  replace HG:=jZ (aA HG.out (World.grownBy_alloc W7 (.cells #[wG ⟨#[35]⟩,wG ⟨#[10]⟩,wG ⟨#[127]⟩] 9) (some g)))
  have hl:=E7.lt
  generalize W7.alloc (.cells #[wG ⟨#[35]⟩,wG ⟨#[10]⟩,wG ⟨#[127]⟩] 9)=Wi at Li Ei HG L4 L5 ⊢
  generalize W7.heap.size=gi at Li hl ⊢
  refine (kD Ei gi 3 [⟨#[35]⟩,⟨#[10]⟩,⟨#[127]⟩] rfl Li oM oM oM oM).mono ?_
  rintro e W8 ⟨y,rfl,Fa,E8,gr⟩
  have MR:y.size≤20:=by
   simp only [mC,mN,oF] at Fa
   rcases Fa with rfl | rfl | rfl <;> first | decide | omega
  replace L4:=L4.kept gr iE
  replace L5:=L5.kept gr iE
  replace HG:=jZ (aA HG.out gr)
  clear gr Ei Li hl E7 Fa
  have HE:=jZ E8
  clear E8
  obtain ⟨d0,d1⟩:=cells2 L5
  obtain ⟨e0,e1⟩:=cells2 L4
  obtain ⟨f0,f1⟩:=frz2 L4
  obtain ⟨p0,p1⟩:=frz2 L5
  have HL:=jZ (And.intro h4 (And.intro h45 Al))
  clear h4 Al
  repeat (first | go_values | go_skip | go_guarded | go_step | go_upon | simp only [])
  refine bodyPost_ret (v:=(dA.mk x1 y).val) (by simp [results,Tryz.results74,go_sem, *]) rfl ⟨⟨x1,y⟩,rfl,⟨by assumption,by assumption⟩, ?_, ?_⟩
  ·exact ((HE.out.wrote (h:=g5) (ab jG) HL.out.2.2 (by have:=HL.out; omega)).wrote (h:=g4) (ab (ab jG)) HL.out.1.2 HL.out.1.1).mono oM
  ·exact bn (bn HG.out (ab (g:=g5) jG) (by have:=HL.out; have:=HQ.out; omega)) (ab (g:=g4) (ab jG)) (by have:=HQ.out; omega)
 ·have b0:((x:Int) == 0)=false:=by rw [beq_eq_false_iff_ne]; omega
  have b1:((x:Int) == 1)=false:=by rw [beq_eq_false_iff_ne]; omega
  have E8:=E7.mono (show _≤m+2+2+2+2 by omega)
  clear h5 E7
  have HE:=jZ E8
  clear E8
  obtain ⟨d0,d1⟩:=cells2 L5
  obtain ⟨e0,e1⟩:=cells2 L4
  obtain ⟨f0,f1⟩:=frz2 L4
  obtain ⟨p0,p1⟩:=frz2 L5
  have HL:=jZ (And.intro h4 (And.intro h45 Al))
  clear h4 Al
  repeat (first | go_values | go_skip | go_guarded | go_step | go_upon | simp only [])
  refine bodyPost_ret (v:=(dA.mk x1 x2).val) (by simp [results,Tryz.results74,go_sem, *]) rfl ⟨⟨x1,x2⟩,rfl,⟨by assumption,by assumption⟩, ?_, ?_⟩
  ·exact (HE.out.wrote (h:=g4) (ab (ab jG)) HL.out.1.2 HL.out.1.1).mono oM
  ·exact bn HG.out (ab (g:=g4) (ab jG)) (by have:=HQ.out; omega)
noncomputable def dZ (l:Lg) (e:dA):Int:=if l.ok && e.ok then (if l.n=60 then 2 else 0) else 1
noncomputable def cH (l:Lg) (e:dA):Lg:=if l.ok && e.ok then (if l.n=60 then l else ⟨l.D,l.P++⟨(bT l.n.toNat (bl e.c) (bl e.r)).toArray⟩,l.n+1⟩) else l
theorem ir {l:Lg} {e:dA} (h:(l.ok && e.ok)=false):cH l e=l∧dZ l e=1:=by unfold cH dZ; rw [h]; exact ⟨rfl,rfl⟩
theorem fM {l:Lg} {e:dA} (h:(l.ok && e.ok)=true) (hn:l.n=60):cH l e=l∧dZ l e=2:=by unfold cH dZ; rw [h,if_pos rfl,if_pos rfl,if_pos hn,if_pos hn]; exact ⟨rfl,rfl⟩
theorem fQ {l:Lg} {e:dA} (h:(l.ok && e.ok)=true) (hn:l.n ≠ 60):cH l e=⟨l.D,l.P++⟨(bT l.n.toNat (bl e.c) (bl e.r)).toArray⟩,l.n+1⟩∧dZ l e=0:=by unfold cH dZ; rw [h,if_pos rfl,if_pos rfl,if_neg hn,if_neg hn]; exact ⟨rfl,rfl⟩
set_option maxRecDepth 100000 in
theorem iu (l:Lg) (e:dA) (w:World) (hs:l.D.size+l.P.size≤2000000) (h1:e.c.size≤1048576) (h2:e.r.size≤1048576) :
  Calls wH 48 #[l.val,e.val] w fun en w'=>en=.returned (.tuple #[(cH l e).val,O U (dZ l e)])∧Below w.heap.size w w':=by
 obtain ⟨D,P,n⟩:=l
 simp only at hs
 have Bu:=@ce (bl D) (bl P) n
 have AP:=cW 60 0 (bl D++bl P)
 have zh:=jZ (ir (l:=⟨D,P,n⟩) (e:=e))
 have yt:=jZ (fM (l:=⟨D,P,n⟩) (e:=e))
 have zi:=jZ (fQ (l:=⟨D,P,n⟩) (e:=e))
 have HS:=jZ (fun W=>jF ⟨D,P,n⟩ W hs)
 have HG:=jZ (fun W=>gP e W oM oM)
 have b1:=((bZ w (.cells #[wG D,wG P,O U n] 27)).alloc sP (.cells #[wG e.c,wG e.r] 62)).alloc (by simp; omega) (.cells #[wG ⟨#[]⟩,wG ⟨#[]⟩,O U 0] 27)
 have L1:=((ai.new w 27 #[wG D,wG P,O U n]).alloc (.cells #[wG e.c,wG e.r] 62)).alloc (.cells #[wG ⟨#[]⟩,wG ⟨#[]⟩,O U 0] 27)
 have E1:=(ai.new (w.alloc (.cells #[wG D,wG P,O U n] 27)) 62 #[wG e.c,wG e.r]).alloc (.cells #[wG ⟨#[]⟩,wG ⟨#[]⟩,O U 0] 27)
 have N1:=ai.new ((w.alloc (.cells #[wG D,wG P,O U n] 27)).alloc (.cells #[wG e.c,wG e.r] 62)) 27 #[wG ⟨#[]⟩,wG ⟨#[]⟩,O U 0]
 have zG:(w.alloc (.cells #[wG D,wG P,O U n] 27)).heap.size=w.heap.size+1:=sP
 have xL:((w.alloc (.cells #[wG D,wG P,O U n] 27)).alloc (.cells #[wG e.c,wG e.r] 62)).heap.size=w.heap.size+2:=sP
 rw [zG] at E1
 rw [xL] at N1
 clear zG xL
 go_enter Tryz.func48,Tryz.ntmps48
 go_wp2_with fail
 generalize ((w.alloc (.cells #[wG D,wG P,O U n] 27)).alloc (.cells #[wG e.c,wG e.r] 62)).alloc (.cells #[wG ⟨#[]⟩,wG ⟨#[]⟩,O U 0] 27)=W at b1 L1 E1 N1 ⊢
 generalize hg:w.heap.size=g at L1 E1 N1 ⊢
 refine (HS.out _).mono ?_
 rintro en w2 ⟨rfl,wM⟩
 have L2:=L1.below wM L1.lt
 have E2:=E1.below wM E1.lt
 have N2:=N1.below wM N1.lt
 have c20:=L2.cell 0
 have c21:=L2.cell 1
 have c22:=L2.cell 2
 have e20:=E2.cell 0
 have e21:=E2.cell 1
 have n20:=N2.cell 0
 have n21:=N2.cell 1
 have n22:=N2.cell 2
 obtain ⟨f20,f21,f22⟩:=frz3 N2
 have y7:=L2.lt
 have DW:=E2.lt
 have Df:=N2.lt
 simp only [gz0,gz1] at c20 c21 c22 e20 e21 n20 n21 n22
 have Dh:Below w.heap.size w w2:=by rw [← hg] at *; exact av b1 wM
 cases wP:Lg.ok ⟨D,P,n⟩
 ·have HK:=jZ (zh.out (by rw [wP]; rfl))
  clear wP Bu AP L1 E1 N1 L2 E2 N2
  go_wp2_with fail
  refine bodyPost_ret (v:=.tuple #[.agg #[wG D,wG P,O U n],O U 1]) (by simp [results,Tryz.results48,go_sem, *]) rfl ⟨by rw [HK.out.1,HK.out.2], ?_⟩
  refine Dh.trans ?_
  repeat (first | exact Below.refl _ _ | refine Below.alloc ?_ (by simp; omega) _ | refine Below.setCell ?_ (by simp; omega) _)
 ·have Fb:=Bu.1 wP
  clear Bu
  obtain ⟨k,hk⟩ : ∃ k:Nat,n=(k:Int):=⟨_,Fb.2.2.symm⟩
  have hk60:k≤60:=by have:=Fb.2.2; omega
  clear AP Fb
  subst hk
  go_wp2_with fail
  refine (HG.out _).mono ?_
  rintro en w3 ⟨rfl,wZ⟩
  clear c20 c21 c22 e20 e21 n20 n21 n22 f20 f21 f22 y7 DW Df
  have L3:=L2.below wZ L2.lt
  have E3:=E2.below wZ E2.lt
  have N3:=N2.below wZ N2.lt
  have c30:=L3.cell 0
  have c31:=L3.cell 1
  have c32:=L3.cell 2
  have e30:=E3.cell 0
  have e31:=E3.cell 1
  have n30:=N3.cell 0
  have n31:=N3.cell 1
  have n32:=N3.cell 2
  obtain ⟨f30,f31,f32⟩:=frz3 N3
  have JM:=L3.lt
  have he3:=E3.lt
  have It:=N3.lt
  simp only [gz0,gz1] at c30 c31 c32 e30 e31 n30 n31 n32
  have Bv:Below w.heap.size w w3:=av Dh wZ
  clear L1 E1 N1 L2 E2 N2
  cases Aw:e.ok
  ·have HK:=jZ (zh.out (by rw [wP,Aw]; rfl))
   clear wP Aw L3 E3 N3
   go_wp2_with fail
   refine bodyPost_ret (v:=.tuple #[.agg #[wG D,wG P,O U (k:Int)],O U 1]) (by simp [results,Tryz.results48,go_sem, *]) rfl ⟨by rw [HK.out.1,HK.out.2], ?_⟩
   refine Bv.trans ?_
   repeat (first | exact Below.refl _ _ | refine Below.alloc ?_ (by simp; omega) _ | refine Below.setCell ?_ (by simp; omega) _)
  ·by_cases hfull:k=60
   ·have HK:=jZ (yt.out (by rw [wP,Aw]; rfl) (by simp [hfull]))
    have d1:((k:Int) == 60)=true:=by rw [hfull]; rfl
    clear wP Aw L3 E3 N3 hfull
    go_wp2_with fail
    refine bodyPost_ret (v:=.tuple #[.agg #[wG D,wG P,O U (k:Int)],O U 2]) (by simp [results,Tryz.results48,go_sem, *]) rfl ⟨by rw [HK.out.1,HK.out.2], ?_⟩
    refine Bv.trans ?_
    repeat (first | exact Below.refl _ _ | refine Below.alloc ?_ (by simp; omega) _ | refine Below.setCell ?_ (by simp; omega) _)
   ·have HK:=jZ (zi.out (by rw [wP,Aw]; rfl) (by simp; omega))
    have d1:((k:Int) == 60)=false:=by simp; omega
    obtain ⟨ln,zM⟩ : ∃ ln:ByteArray,ln=⟨(bT k (bl e.c) (bl e.r)).toArray⟩:=⟨_,rfl⟩
    have GP:ln.size≤100000000:=by rw [zM,← an,bo]; have:=ji (k:=k) (c:=bl e.c) (r:=bl e.r) Aw oM; omega
    have AX:Hid (∀ W,Calls wH 90 #[O U (k:Int),e.val] W fun en w'=>en=.returned (wG ln)∧Below W.heap.size W w'):=fun W=>by
     rw [zM]; exact mX k e W oM (by have:=(de.1 Aw).2.1; rw [an] at this; omega) (by have:=(de.1 Aw).2.2.2.2.2; rw [an] at this; omega)
    have Ey:Hid (cH ⟨D,P,(k:Int)⟩ e=⟨D,P++ln,(k:Int)+1⟩∧dZ ⟨D,P,(k:Int)⟩ e=0):=by
     have h:=HK.out
     rw [Int.toNat_natCast,← zM] at h; exact h
    clear HK wP Aw zM hfull zh yt zi
    go_wp2_with fail
    have BW:w.heap.size≤g:=oM
    refine fw (fun W9=>ai W9 g 27 [wG D,wG P,O U (k:Int)]∧ai W9 (g+1) 62 [wG e.c,wG e.r]∧ai W9 (g+1+1) 27 [wG ⟨#[]⟩,wG ⟨#[]⟩,O U 0]∧Below w.heap.size w W9) (fun _ _=>True) kZ kZ kZ kZ ⟨L3.below jB.drew L3.lt,E3.below jB.drew E3.lt,N3.below jB.drew N3.lt,Bv.drew⟩ ?_
    simp only [ax,Act.put,sA,gs0,gs1,Nat.zero_add,Nat.reduceAdd]
    clear L3 E3 N3 c30 c31 c32 e30 e31 n30 n31 n32 f30 f31 f32 JM he3 It
    refine aH (.pointer (some ⟨g,1,none⟩)) (fun vs w9 wI hB K9 wJ=>?_) ?_
    ·go_simp
     exact wJ _ _ rfl wI trivial
    refine aH (wG P) (fun vs w9 wI hB K9 wJ=>?_) ?_
    ·have As:=hB 0 _ kZ rfl
     simp only [As] at wJ ⊢
     have q1:w9.cell? ⟨g,1,none⟩=some (wG P):=wI.1.cell 1
     go_simp
     exact wJ _ _ rfl wI trivial
    refine aH (.pointer (some ⟨g,2,none⟩)) (fun vs w9 wI hB K9 wJ=>?_) ?_
    ·go_simp
     exact wJ _ _ rfl wI trivial
    refine aH (O U (k:Int)) (fun vs w9 wI hB K9 wJ=>?_) ?_
    ·have Af:=hB 2 _ kZ rfl
     simp only [Af] at wJ ⊢
     have q1:w9.cell? ⟨g,2,none⟩=some (O U (k:Int)):=wI.1.cell 2
     go_simp
     exact wJ _ _ rfl wI trivial
    refine aH (.agg #[wG e.c,wG e.r]) (fun vs w9 wI hB K9 wJ=>?_) ?_
    ·have q0:w9.cell? ⟨g+1,0,none⟩=some (wG e.c):=wI.2.1.cell 0
     have q1:w9.cell? ⟨g+1,1,none⟩=some (wG e.r):=wI.2.1.cell 1
     go_simp
     exact wJ _ _ rfl wI trivial
    refine aH (wG ln) (fun vs w9 wI hB K9 wJ=>?_) ?_
    ·have xX:=hB 3 _ kZ rfl
     have EQ:=hB 4 _ kZ rfl
     simp only [xX,EQ] at wJ ⊢
     go_simp
     refine (AX.out _).mono ?_
     rintro en w8 ⟨rfl,wL⟩
     exact wJ _ _ rfl ⟨wI.1.below wL wI.1.lt,wI.2.1.below wL wI.2.1.lt,wI.2.2.1.below wL wI.2.2.1.lt,wI.2.2.2.trans (wL.mono wI.2.2.2.size)⟩ trivial
    refine aH (wG (P++ln)) (fun vs w9 wI hB K9 wJ=>?_) ?_
    ·have Ae:=hB 1 _ kZ rfl
     have ER:=hB 5 _ kZ rfl
     simp only [Ae,ER] at wJ ⊢
     go_simp
     (first | (rw [if_neg oM]; go_simp) | skip)
     exact wJ _ _ rfl wI trivial
    refine aH (.pointer (some ⟨g,1,none⟩)) (fun vs w9 wI hB K9 wJ=>?_) ?_
    ·go_simp
     exact wJ _ _ rfl wI trivial
    refine gI (fun vs w9 wI hB K9 wJ=>?_)
    have EU:=hB 6 _ rfl
    have ES:=hB 7 _ rfl
    simp only [EU,ES] at wJ ⊢
    obtain ⟨L9,E9,N9,B9⟩:=wI
    have c91:=L9.cell 1
    have f91:=L9.frozen 1
    simp only [gz0,gz1] at c91
    go_simp
    refine wJ _ _ ?_
    have L4:=L9.set 1 (wG (P++ln))
    have E4:=E9.other (p:=⟨g,1,none⟩) sP (wG (P++ln))
    have N4:=N9.other (p:=⟨g,1,none⟩) (by simp; omega) (wG (P++ln))
    have B4:=B9.setCell (p:=⟨g,1,none⟩) BW (wG (P++ln))
    generalize w9.setCell ⟨g,1,none⟩ (wG (P++ln))=w4 at L4 E4 N4 B4 ⊢
    simp only [List.set_cons_zero,List.set_cons_succ] at L4
    have ff2:=L4.frozen 2
    clear c91 f91 L9 E9 N9 B9 hB wJ
    have c40:=L4.cell 0
    have c41:=L4.cell 1
    have c42:=L4.cell 2
    have e40:=E4.cell 0
    have e41:=E4.cell 1
    have n40:=N4.cell 0
    have n41:=N4.cell 1
    have n42:=N4.cell 2
    obtain ⟨f40,f41,f42⟩:=frz3 N4
    have MS:=L4.lt
    have MT:=E4.lt
    have MU:=N4.lt
    simp only [gz0,gz1] at c40 c41 c42 e40 e41 n40 n41 n42
    have JN:(P++ln).size=P.size+ln.size:=bg _ _
    clear L4 E4 N4
    go_wp2_with fail
    refine bodyPost_ret (v:=.tuple #[.agg #[wG D,wG (P++ln),O U ((k:Int)+1)],O U 0]) (by simp [results,Tryz.results48,go_sem, *]) rfl ⟨by rw [Ey.out.1,Ey.out.2], ?_⟩
    refine B4.trans ?_
    repeat (first | exact Below.refl _ _ | refine Below.alloc ?_ (by simp; omega) _ | refine Below.setCell ?_ (by simp; omega) _)
set_option maxRecDepth 100000 in
theorem oe (l:Lg) (e:dA) (w:World) (hs:l.D.size+l.P.size≤2000000) (h1:e.c.size≤1048576) (h2:e.r.size≤1048576) (ht:hQ w) :
  Calls wH 53 #[l.val,e.val] w fun en w'=>en=.returned (.tuple #[(cH l e).val,O U (dZ l e)])∧Below w.heap.size w w':=by
 obtain ⟨D,P,n⟩:=l
 simp only at hs
 have Bu:=@ce (bl D) (bl P) n
 have AP:=cW 60 0 (bl D++bl P)
 have zh:=jZ (ir (l:=⟨D,P,n⟩) (e:=e))
 have yt:=jZ (fM (l:=⟨D,P,n⟩) (e:=e))
 have zi:=jZ (fQ (l:=⟨D,P,n⟩) (e:=e))
 have HS:=jZ (fun W hW=>kF ⟨D,P,n⟩ W hs hW)
 have HG:=jZ (fun W=>fx e W oM oM)
 have b1:=((bZ w (.cells #[wG D,wG P,O U n] 27)).alloc sP (.cells #[wG e.c,wG e.r] 62)).alloc (by simp; omega) (.cells #[wG ⟨#[]⟩,wG ⟨#[]⟩,O U 0] 27)
 have L1:=((ai.new w 27 #[wG D,wG P,O U n]).alloc (.cells #[wG e.c,wG e.r] 62)).alloc (.cells #[wG ⟨#[]⟩,wG ⟨#[]⟩,O U 0] 27)
 have E1:=(ai.new (w.alloc (.cells #[wG D,wG P,O U n] 27)) 62 #[wG e.c,wG e.r]).alloc (.cells #[wG ⟨#[]⟩,wG ⟨#[]⟩,O U 0] 27)
 have N1:=ai.new ((w.alloc (.cells #[wG D,wG P,O U n] 27)).alloc (.cells #[wG e.c,wG e.r] 62)) 27 #[wG ⟨#[]⟩,wG ⟨#[]⟩,O U 0]
 have zG:(w.alloc (.cells #[wG D,wG P,O U n] 27)).heap.size=w.heap.size+1:=sP
 have xL:((w.alloc (.cells #[wG D,wG P,O U n] 27)).alloc (.cells #[wG e.c,wG e.r] 62)).heap.size=w.heap.size+2:=sP
 rw [zG] at E1
 rw [xL] at N1
 have yg:=ht.then b1
 clear zG xL
 go_enter Tryz.func53,Tryz.ntmps53
 go_wp2_with fail
 generalize ((w.alloc (.cells #[wG D,wG P,O U n] 27)).alloc (.cells #[wG e.c,wG e.r] 62)).alloc (.cells #[wG ⟨#[]⟩,wG ⟨#[]⟩,O U 0] 27)=W at yg b1 L1 E1 N1 ⊢
 generalize hg:w.heap.size=g at L1 E1 N1 ⊢
 refine (HS.out _ yg).mono ?_
 rintro en w2 ⟨rfl,wM⟩
 have L2:=L1.below wM L1.lt
 have E2:=E1.below wM E1.lt
 have N2:=N1.below wM N1.lt
 have c20:=L2.cell 0
 have c21:=L2.cell 1
 have c22:=L2.cell 2
 have e20:=E2.cell 0
 have e21:=E2.cell 1
 have n20:=N2.cell 0
 have n21:=N2.cell 1
 have n22:=N2.cell 2
 obtain ⟨f20,f21,f22⟩:=frz3 N2
 have y7:=L2.lt
 have DW:=E2.lt
 have Df:=N2.lt
 simp only [gz0,gz1] at c20 c21 c22 e20 e21 n20 n21 n22
 have Dh:Below w.heap.size w w2:=by rw [← hg] at *; exact av b1 wM
 cases wP:Lg.ok ⟨D,P,n⟩
 ·have HK:=jZ (zh.out (by rw [wP]; rfl))
  clear wP Bu AP L1 E1 N1 L2 E2 N2
  go_wp2_with fail
  refine bodyPost_ret (v:=.tuple #[.agg #[wG D,wG P,O U n],O U 1]) (by simp [results,Tryz.results53,go_sem, *]) rfl ⟨by rw [HK.out.1,HK.out.2], ?_⟩
  refine Dh.trans ?_
  repeat (first | exact Below.refl _ _ | refine Below.alloc ?_ (by simp; omega) _ | refine Below.setCell ?_ (by simp; omega) _)
 ·have Fb:=Bu.1 wP
  clear Bu
  obtain ⟨k,hk⟩ : ∃ k:Nat,n=(k:Int):=⟨_,Fb.2.2.symm⟩
  have hk60:k≤60:=by have:=Fb.2.2; omega
  clear AP Fb
  subst hk
  go_wp2_with fail
  refine (HG.out _).mono ?_
  rintro en w3 ⟨rfl,wZ⟩
  clear c20 c21 c22 e20 e21 n20 n21 n22 f20 f21 f22 y7 DW Df
  have L3:=L2.below wZ L2.lt
  have E3:=E2.below wZ E2.lt
  have N3:=N2.below wZ N2.lt
  have c30:=L3.cell 0
  have c31:=L3.cell 1
  have c32:=L3.cell 2
  have e30:=E3.cell 0
  have e31:=E3.cell 1
  have n30:=N3.cell 0
  have n31:=N3.cell 1
  have n32:=N3.cell 2
  obtain ⟨f30,f31,f32⟩:=frz3 N3
  have JM:=L3.lt
  have he3:=E3.lt
  have It:=N3.lt
  simp only [gz0,gz1] at c30 c31 c32 e30 e31 n30 n31 n32
  have Bv:Below w.heap.size w w3:=av Dh wZ
  clear L1 E1 N1 L2 E2 N2
  cases Aw:e.ok
  ·have HK:=jZ (zh.out (by rw [wP,Aw]; rfl))
   clear wP Aw L3 E3 N3
   go_wp2_with fail
   refine bodyPost_ret (v:=.tuple #[.agg #[wG D,wG P,O U (k:Int)],O U 1]) (by simp [results,Tryz.results53,go_sem, *]) rfl ⟨by rw [HK.out.1,HK.out.2], ?_⟩
   refine Bv.trans ?_
   repeat (first | exact Below.refl _ _ | refine Below.alloc ?_ (by simp; omega) _ | refine Below.setCell ?_ (by simp; omega) _)
  ·by_cases hfull:k=60
   ·have HK:=jZ (yt.out (by rw [wP,Aw]; rfl) (by simp [hfull]))
    have d1:((k:Int) == 60)=true:=by rw [hfull]; rfl
    clear wP Aw L3 E3 N3 hfull
    go_wp2_with fail
    refine bodyPost_ret (v:=.tuple #[.agg #[wG D,wG P,O U (k:Int)],O U 2]) (by simp [results,Tryz.results53,go_sem, *]) rfl ⟨by rw [HK.out.1,HK.out.2], ?_⟩
    refine Bv.trans ?_
    repeat (first | exact Below.refl _ _ | refine Below.alloc ?_ (by simp; omega) _ | refine Below.setCell ?_ (by simp; omega) _)
   ·have HK:=jZ (zi.out (by rw [wP,Aw]; rfl) (by simp; omega))
    have d1:((k:Int) == 60)=false:=by simp; omega
    obtain ⟨ln,zM⟩ : ∃ ln:ByteArray,ln=⟨(bT k (bl e.c) (bl e.r)).toArray⟩:=⟨_,rfl⟩
    have GP:ln.size≤100000000:=by rw [zM,← an,bo]; have:=ji (k:=k) (c:=bl e.c) (r:=bl e.r) Aw oM; omega
    have AX:Hid (∀ W,hQ W→Calls wH 100 #[O U (k:Int),e.val] W fun en w'=>en=.returned (wG ln)∧Below W.heap.size W w'):=fun W hW=>by
     rw [zM]; exact mo k e W oM Aw hW
    have Ey:Hid (cH ⟨D,P,(k:Int)⟩ e=⟨D,P++ln,(k:Int)+1⟩∧dZ ⟨D,P,(k:Int)⟩ e=0):=by
     have h:=HK.out
     rw [Int.toNat_natCast,← zM] at h; exact h
    clear HK wP Aw zM hfull zh yt zi
    go_wp2_with fail
    have BW:w.heap.size≤g:=oM
    refine fw (fun W9=>ai W9 g 27 [wG D,wG P,O U (k:Int)]∧ai W9 (g+1) 62 [wG e.c,wG e.r]∧ai W9 (g+1+1) 27 [wG ⟨#[]⟩,wG ⟨#[]⟩,O U 0]∧Below w.heap.size w W9) (fun _ _=>True) kZ kZ kZ kZ ⟨L3.below jB.drew L3.lt,E3.below jB.drew E3.lt,N3.below jB.drew N3.lt,Bv.drew⟩ ?_
    simp only [ax,Act.put,sA,gs0,gs1,Nat.zero_add,Nat.reduceAdd]
    clear L3 E3 N3 c30 c31 c32 e30 e31 n30 n31 n32 f30 f31 f32 JM he3 It
    refine aH (.pointer (some ⟨g,1,none⟩)) (fun vs w9 wI hB K9 wJ=>?_) ?_
    ·go_simp
     exact wJ _ _ rfl wI trivial
    refine aH (wG P) (fun vs w9 wI hB K9 wJ=>?_) ?_
    ·have As:=hB 0 _ kZ rfl
     simp only [As] at wJ ⊢
     have q1:w9.cell? ⟨g,1,none⟩=some (wG P):=wI.1.cell 1
     go_simp
     exact wJ _ _ rfl wI trivial
    refine aH (.pointer (some ⟨g,2,none⟩)) (fun vs w9 wI hB K9 wJ=>?_) ?_
    ·go_simp
     exact wJ _ _ rfl wI trivial
    refine aH (O U (k:Int)) (fun vs w9 wI hB K9 wJ=>?_) ?_
    ·have Af:=hB 2 _ kZ rfl
     simp only [Af] at wJ ⊢
     have q1:w9.cell? ⟨g,2,none⟩=some (O U (k:Int)):=wI.1.cell 2
     go_simp
     exact wJ _ _ rfl wI trivial
    refine aH (.agg #[wG e.c,wG e.r]) (fun vs w9 wI hB K9 wJ=>?_) ?_
    ·have q0:w9.cell? ⟨g+1,0,none⟩=some (wG e.c):=wI.2.1.cell 0
     have q1:w9.cell? ⟨g+1,1,none⟩=some (wG e.r):=wI.2.1.cell 1
     go_simp
     exact wJ _ _ rfl wI trivial
    refine aH (wG ln) (fun vs w9 wI hB K9 wJ=>?_) ?_
    ·have xX:=hB 3 _ kZ rfl
     have EQ:=hB 4 _ kZ rfl
     simp only [xX,EQ] at wJ ⊢
     go_simp
     refine (AX.out _ (ht.then wI.2.2.2)).mono ?_
     rintro en w8 ⟨rfl,wL⟩
     exact wJ _ _ rfl ⟨wI.1.below wL wI.1.lt,wI.2.1.below wL wI.2.1.lt,wI.2.2.1.below wL wI.2.2.1.lt,wI.2.2.2.trans (wL.mono wI.2.2.2.size)⟩ trivial
    refine aH (wG (P++ln)) (fun vs w9 wI hB K9 wJ=>?_) ?_
    ·have Ae:=hB 1 _ kZ rfl
     have ER:=hB 5 _ kZ rfl
     simp only [Ae,ER] at wJ ⊢
     go_simp
     (first | (rw [if_neg oM]; go_simp) | skip)
     exact wJ _ _ rfl wI trivial
    refine aH (.pointer (some ⟨g,1,none⟩)) (fun vs w9 wI hB K9 wJ=>?_) ?_
    ·go_simp
     exact wJ _ _ rfl wI trivial
    refine gI (fun vs w9 wI hB K9 wJ=>?_)
    have EU:=hB 6 _ rfl
    have ES:=hB 7 _ rfl
    simp only [EU,ES] at wJ ⊢
    obtain ⟨L9,E9,N9,B9⟩:=wI
    have c91:=L9.cell 1
    have f91:=L9.frozen 1
    simp only [gz0,gz1] at c91
    go_simp
    refine wJ _ _ ?_
    have L4:=L9.set 1 (wG (P++ln))
    have E4:=E9.other (p:=⟨g,1,none⟩) sP (wG (P++ln))
    have N4:=N9.other (p:=⟨g,1,none⟩) (by simp; omega) (wG (P++ln))
    have B4:=B9.setCell (p:=⟨g,1,none⟩) BW (wG (P++ln))
    generalize w9.setCell ⟨g,1,none⟩ (wG (P++ln))=w4 at L4 E4 N4 B4 ⊢
    simp only [List.set_cons_zero,List.set_cons_succ] at L4
    have ff2:=L4.frozen 2
    clear c91 f91 L9 E9 N9 B9 hB wJ
    have c40:=L4.cell 0
    have c41:=L4.cell 1
    have c42:=L4.cell 2
    have e40:=E4.cell 0
    have e41:=E4.cell 1
    have n40:=N4.cell 0
    have n41:=N4.cell 1
    have n42:=N4.cell 2
    obtain ⟨f40,f41,f42⟩:=frz3 N4
    have MS:=L4.lt
    have MT:=E4.lt
    have MU:=N4.lt
    simp only [gz0,gz1] at c40 c41 c42 e40 e41 n40 n41 n42
    have JN:(P++ln).size=P.size+ln.size:=bg _ _
    clear L4 E4 N4
    go_wp2_with fail
    refine bodyPost_ret (v:=.tuple #[.agg #[wG D,wG (P++ln),O U ((k:Int)+1)],O U 0]) (by simp [results,Tryz.results53,go_sem, *]) rfl ⟨by rw [Ey.out.1,Ey.out.2], ?_⟩
    refine B4.trans ?_
    repeat (first | exact Below.refl _ _ | refine Below.alloc ?_ (by simp; omega) _ | refine Below.setCell ?_ (by simp; omega) _)
def og (k:Nat) (l:Lg):Prop:=l.D.size+l.P.size≤410 * k∧0≤l.n∧l.n≤60
theorem og.zero:og 0 ⟨⟨#[]⟩,⟨#[]⟩,0⟩:=⟨dD,dD,dD⟩
theorem og.mono {k k' : Nat} {l:Lg} (h:og k l) (hk:k≤k'):og k' l:=⟨by have:=h.1; omega,h.2⟩
theorem og.app {k:Nat} {l:Lg} (h:og k l) (e:dA):og (k+1) (cH l e):=by
 obtain ⟨h1,h2,h3⟩:=h
 cases wP:(l.ok && e.ok) with
 | false=>rw [(ir wP).1]; exact ⟨oM,h2,h3⟩
 | true =>
  by_cases hn:l.n=60
  ·rw [(fM wP hn).1]; exact ⟨oM,h2,h3⟩
  ·rw [(fQ wP hn).1]
   rw [Bool.and_eq_true] at wP
   have hl:=ji (k:=l.n.toNat) (show eY (bl e.c) (bl e.r)=true from wP.2) oM
   refine ⟨?_,by simp only; omega,by simp only; omega⟩
   simp only [bg]
   have:(⟨(bT l.n.toNat (bl e.c) (bl e.r)).toArray⟩ : ByteArray).size=(bT l.n.toNat (bl e.c) (bl e.r)).length:=by simp [ByteArray.size]
   omega
theorem og.sync {k:Nat} {l:Lg} (h:og k l):og k (iv l):=by
 unfold iv
 split
 ·refine ⟨?_,h.2⟩
  simp only [bg]
  have h0:(⟨#[]⟩ : ByteArray).size=0:=rfl
  have:=h.1; omega
 ·exact og.zero.mono (Nat.zero_le _)
theorem px {W:World} {g:Nat} {a b c:Value} (h:ai W g 27 [a,b,c]) (x y z:Value):ai (((W.setCell ⟨g,0,none⟩ x).setCell ⟨g,1,none⟩ y).setCell ⟨g,2,none⟩ z) g 27 [x,y,z]:=by
 have:=((h.set 0 x).set 1 y).set 2 z
 simpa using this
theorem dQ (W:World) (g:Nat) (x y z:Value):W.grownBy (((W.setCell ⟨g,0,none⟩ x).setCell ⟨g,1,none⟩ y).setCell ⟨g,2,none⟩ z) (some g):=ab (ab (ab (World.grownBy.refl W (some g))))
structure sr (w W wx:World) (g:Nat) (A:Option Addr) (bs:List UInt8) (cap m gl k:Nat) (l:Lg):Prop where
 env:eZ w wx g A bs cap m
 lies:ai wx gl 27 [wG l.D,wG l.P,O U l.n]
 gr:W.grownBy wx (some g)
 sz:og k l
section
variable {w W wx wy:World} {g:Nat} {A:Option Addr} {bs:List UInt8} {cap m m' gl k k' : Nat} {l l' : Lg}
theorem sr.mono (h:sr w W wx g A bs cap m gl k l) (hm:m≤m') (hk:k≤k'):sr w W wx g A bs cap m' gl k' l:=⟨h.env.mono hm,h.lies,h.gr,h.sz.mono hk⟩
theorem sr.next (h:sr w W wx g A bs cap m gl k l) (E:eZ w wy g A bs cap m') (hg:wx.grownBy wy (some g)) (hB:gl ≠ g):sr w W wy g A bs cap m' gl k l:=⟨E,h.lies.kept hg (by intro e; injection e with e; exact hB e),aA h.gr hg,h.sz⟩
theorem sr.below (h:sr w W wx g A bs cap m gl k l) (hb:Below wx.heap.size wx wy):sr w W wy g A bs cap m gl k l:=⟨h.env.below hb,h.lies.below hb h.lies.lt,aA h.gr (cn hb _),h.sz⟩
theorem sr.store (h:sr w W wx g A bs cap m gl k l) (hg:g < gl) (hw:w.heap.size≤gl) (hW:W.heap.size≤gl) (hs:og k' l') :
  sr w W (((wx.setCell ⟨gl,0,none⟩ (wG l'.D)).setCell ⟨gl,1,none⟩ (wG l'.P)).setCell ⟨gl,2,none⟩ (O U l'.n)) g A bs cap m gl k' l' :=
 ⟨h.env.wrote (dQ _ _ _ _ _) hw hg,px h.lies _ _ _,bn h.gr (dQ _ _ _ _ _) hW,hs⟩
end
set_option maxRecDepth 100000 in
theorem vO (g:Nat) (A:Option Addr) (bs:List UInt8) (cap m:Nat) (w W:World) (hm:m≤700000000) (E0:eZ w W g A bs cap m) :
  Calls wH 163 #[.pointer (some ⟨g,0,none⟩)] W fun e w'=>∃ l:Lg,e=.returned l.val∧og 6 l∧eZ w w' g A bs cap (m+1000)∧W.grownBy w' (some g):=by
 have hgW:=E0.lt
 have hwW:=E0.gr.size
 go_enter Tryz.func163,Tryz.ntmps163
 go_wp2_with fail
 have E1:=(E0.alloc (.cells #[wG ⟨#[]⟩,wG ⟨#[]⟩,O U 0] 27)).alloc (.cells #[wG ⟨#[]⟩,wG ⟨#[]⟩,O U 0] 27)
 have L4:=(ai.new W 27 #[wG ⟨#[]⟩,wG ⟨#[]⟩,O U 0]).alloc (.cells #[wG ⟨#[]⟩,wG ⟨#[]⟩,O U 0] 27)
 have L5:=ai.newB W (.cells #[wG ⟨#[]⟩,wG ⟨#[]⟩,O U 0] 27) 27 #[wG ⟨#[]⟩,wG ⟨#[]⟩,O U 0]
 have G1:=aA (World.grownBy_alloc W (.cells #[wG ⟨#[]⟩,wG ⟨#[]⟩,O U 0] 27) (some g)) (World.grownBy_alloc _ (.cells #[wG ⟨#[]⟩,wG ⟨#[]⟩,O U 0] 27) (some g))
 generalize (W.alloc (.cells #[wG ⟨#[]⟩,wG ⟨#[]⟩,O U 0] 27)).alloc (.cells #[wG ⟨#[]⟩,wG ⟨#[]⟩,O U 0] 27)=W1 at E1 L4 L5 G1 ⊢
 obtain ⟨g4,xC⟩ : ∃ g4,W.heap.size=g4:=⟨_,rfl⟩
 have h4:g < g4∧w.heap.size≤g4:=oM
 rw [xC] at L4 L5
 rw [xC]
 have xU:W.heap.size≤g4:=oM
 clear xC hgW hwW
 refine (dF E1 7 oM oM).mono ?_
 rintro e W3 ⟨n,rfl,hn,E3,gr⟩
 replace L4:=L4.kept gr iE
 have St:sr w W W3 g A bs cap (m+10+100 * (6 - n)) (g4+1) (6 - n) ⟨⟨#[]⟩,⟨#[]⟩,0⟩:=⟨E3.mono oM,L5.kept gr iE,aA G1 gr,og.zero.mono (Nat.zero_le _)⟩
 have HS:=jZ St
 have DF:=jZ L4
 clear St E3 gr L4 L5 G1 E1 E0
 go_wp2_with fail
 go_loopw [4] (fun i wr=>∃ (k:Nat) (l:Lg),k≤6∧i=O U k∧Hid (sr w W wr g A bs cap (m+10+100 * (6 - k)) (g4+1) (6 - k) l)∧Hid (ai wr g4 27 [wG ⟨#[]⟩,wG ⟨#[]⟩,O U 0])) (fun i _=>(intOf i).toNat)
 case atStart=>exact ⟨n,_,oM,rfl,HS,DF⟩
 case round =>
  clear HS DF hn
  obtain ⟨k,l,hk,rfl,HS,DF⟩:=hrel
  by_cases wQ:0 < k
  ·obtain ⟨k,rfl⟩ : ∃ q,k=q+1:=⟨k - 1,oM⟩
   clear wQ
   have yE:(0:Int) < ((k+1:Nat):Int):=oM
   have K5:=HS.out.lies
   have E5:=HS.out.env
   have JO:=jZ HS.out.sz
   have CY:Hid (∀ p ∈ [bX.lies 7 (g4+1) 27 [wG l.D,wG l.P,O U l.n]],p.blk ≠ some g∧p.P wr):=by
    intro p hp
    simp only [mC,mN,oF] at hp
    subst hp
    exact ⟨by intro e; injection e; omega,K5⟩
   go_upto_region 5 with fail
   refine al (Dr w wr g A bs cap (m+10+100 * (6 - (k+1))) 8 8 [g,g4+1] [bX.lies 7 (g4+1) 27 [wG l.D,wG l.P,O U l.n]]) (fun i w1 w2=>i ∉ [7]→w1.grownBy w2 (some g)) kZ kZ kZ (Dr.start E5 CY.out) ?_
   simp only [ax,Act.put,sA,gs0,gs1,Nat.zero_add,Nat.reduceAdd]
   apply aa
   case h1 =>
    intro vs L9 w9 wK wI hB K9 wJ
    have q0:w9.cell? ⟨g4+1,0,none⟩=some (wG l.D):=((wI.room (bX.lies 7 (g4+1) 27 [wG l.D,wG l.P,O U l.n]) sP).2 (wK.open_ 7 kZ)).cell 0
    have q1:w9.cell? ⟨g4+1,1,none⟩=some (wG l.P):=((wI.room (bX.lies 7 (g4+1) 27 [wG l.D,wG l.P,O U l.n]) sP).2 (wK.open_ 7 kZ)).cell 1
    have q2:w9.cell? ⟨g4+1,2,none⟩=some (O U l.n):=((wI.room (bX.lies 7 (g4+1) 27 [wG l.D,wG l.P,O U l.n]) sP).2 (wK.open_ 7 kZ)).cell 2
    simp only [Act.put,sA,gs0,gs1] at wJ
    go_simp
    exact wJ _ _ rfl (dS wK wI) gR
   refine aa _ vd0 ?_
   refine sm0 [] (fun v _=>∃ r:dA,v=r.val∧(r.c.size≤20∧r.r.size≤20)) (fun vs L9 w9 wK wI hB K9 wJ=>?_) ?_
   next =>
    have d1:=fe hB 1
    simp only [d1] at wJ ⊢
    simp only [Act.put,sA,gs0,gs1] at wJ
    go_simp
    refine (o4 g A bs cap _ w w9 (by have:=wI.cnt; omega) wI.env).mono ?_
    rintro en w8 ⟨r8,rfl,MV,yz,xu⟩
    exact wJ _ _ _ rfl ⟨r8,rfl,MV⟩ (dC wK wI yz xu) (fun _=>xu)
   refine sm0 [] (fun v _=>∃ (l2:Lg) (c:Int),v=.tuple #[l2.val,O U c]∧og (6 - k) l2) (fun vs L9 w9 wK wI hB K9 wJ=>?_) ?_
   next =>
    have d0:=fe hB 0
    simp only [d0] at wJ ⊢
    simp only [Act.put,sA,gs0,gs1] at wJ
    obtain ⟨r2,e2,er2⟩:=fs hB 2
    simp only [e2] at wJ ⊢
    have MW:og (6 - k) (cH l r2):=(JO.out.app r2).mono oM
    have Id:=JO.out.1
    go_simp
    refine (iu l r2 w9 oM oM oM).mono ?_
    rintro en w8 ⟨rfl,wL⟩
    exact wJ _ _ _ rfl ⟨cH l r2,_,rfl,MW⟩ (wI.below wK.self dD wL) (fun _=>cn wL _)
   refine sm0 [] (fun v _=>∃ (l2:Lg) (c:Int),v=.tuple #[l2.val,O U c]∧og (6 - k) l2) (fun vs L9 w9 wK wI hB K9 wJ=>?_) ?_
   next =>
    simp only [Act.put,sA,gs0,gs1] at wJ
    obtain ⟨l3,c3,e3,el3⟩:=fs hB 3
    simp only [e3] at wJ ⊢
    go_simp
    exact wJ _ _ _ rfl ⟨l3,c3,rfl,el3⟩ (dS wK wI) gR
   refine sm0 [] (fun v _=>∃ l2:Lg,v=l2.val∧og (6 - k) l2) (fun vs L9 w9 wK wI hB K9 wJ=>?_) ?_
   next =>
    simp only [Act.put,sA,gs0,gs1] at wJ
    obtain ⟨l4,c4,e4,el4⟩:=fs hB 4
    simp only [e4] at wJ ⊢
    go_simp
    exact wJ _ _ _ rfl ⟨l4,rfl,el4⟩ (dS wK wI) gR
   refine sm0 [] (fun v _=>∃ z:Int,v=O U z) (fun vs L9 w9 wK wI hB K9 wJ=>?_) ?_
   next =>
    simp only [Act.put,sA,gs0,gs1] at wJ
    obtain ⟨l4,c4,e4,el4⟩:=fs hB 4
    simp only [e4] at wJ ⊢
    go_simp
    exact wJ _ _ _ rfl ⟨c4,rfl⟩ (dS wK wI) gR
   refine sm [] (fun _ w9=>∃ l2:Lg,og (6 - k) l2∧ai w9 (g4+1) 27 [wG l2.D,wG l2.P,O U l2.n]) (fun vs L9 w9 wK wI hB K9 wJ=>?_) ?_
   next =>
    simp only [Act.put] at wJ
    obtain ⟨l5,e5,el5⟩:=fs hB 5
    simp only [e5] at wJ ⊢
    have wS:ai w9 (g4+1) 27 [wG l.D,wG l.P,O U l.n]:=(wI.room (bX.lies 7 (g4+1) 27 [wG l.D,wG l.P,O U l.n]) sP).2 wK.self
    obtain ⟨y0,y1,y2⟩:=cells3 wS
    obtain ⟨f0,f1,f2⟩:=frz3 wS
    have xd:ai _ (g4+1) 27 [wG l5.D,wG l5.P,O U l5.n]:=(((wS.set 0 (wG l5.D)).set 1 (wG l5.P)).set 2 (O U l5.n))
    have yA:=jZ (gw3 w9 (g4+1) (wG l5.D) (wG l5.P) (O U l5.n))
    have xo:=jZ xd
    clear xd wS
    go_simp
    exact wJ _ undef _ rfl ⟨l5,el5,xo.out⟩ (wI.wrote wK.self dD yA.out (fun b e=>by injection e with e; subst e; exact ⟨oM,oM,.inl sP⟩) (by intro p hp e; simp only [mC,mN,oF] at hp; first | (subst hp; exact .inl rfl) | (rcases hp with rfl | rfl <;> first | exact .inl rfl | exact absurd (Option.some.inj e) oM))) nq
   refine ar fun vs Lq W5 wS yw hB=>?_
   obtain ⟨l5,q5,Eq⟩:=hB 7 _ rfl rfl dD
   clear hB wS
   have Eq:ai W5 (g4+1) 27 [wG l5.D,wG l5.P,O U l5.n]:=Eq
   have L44:=yw.lies DF.out (by simp only [mC,mN,oF]; omega)
   have G5:=eh HS.out.gr yw (by intro k hk wT; simp only [mC,mN,oF] at hk; omega) E5
   have St5:sr w W W5 g A bs cap (m+10+100 * (6 - (k+1))+8 * 8) (g4+1) (6 - k) l5:=⟨yw.le,Eq,G5,q5⟩
   clear yw Eq G5 q5 E5 K5 CY JO HS DF
   go_wp2_with fail
   refine (kw St5.env 4 oM oM).mono ?_
   rintro e W6 ⟨q,rfl,E6,gr⟩
   have St6:=St5.next E6 gr oM
   replace L44:=L44.kept gr iE
   clear gr E6 St5
   cases q
   ·have HS:=jZ (St6.mono (show _≤m+10+100 * (6 - k) by omega) nR)
    have DF:=jZ L44
    clear St6 L44
    go_wp2_with fail
    go_roundw
    case rel=>exact ⟨k,l5,oM,by go_num,HS,DF⟩
    case measure=>simp [intOf] <;> omega
   ·have K5:=St6.lies
    obtain ⟨k0,k1,k2⟩:=cells3 K5
    clear K5
    go_wp2_with fail
    refine (qf l5 W6 (by have:=St6.sz.1; omega)).mono ?_
    rintro e W7 ⟨rfl,yJ⟩
    have hs6:=St6.sz.sync
    have St7:=St6.below yJ
    replace L44:=L44.below yJ L44.lt
    clear St6 yJ k0 k1 k2
    generalize iv l5=l6 at hs6 ⊢
    have K5:=St7.lies
    obtain ⟨k0,k1,k2⟩:=cells3 K5
    obtain ⟨f0,f1,f2⟩:=frz3 K5
    have HS:=jZ ((St7.store (l':=l6) oM oM oM hs6).mono (show _≤m+10+100 * (6 - k) by omega) nR)
    have DF:=jZ (((L44.other (p:=⟨g4+1,0,none⟩) sP (wG l6.D)).other (p:=⟨g4+1,1,none⟩) sP (wG l6.P)).other (p:=⟨g4+1,2,none⟩) sP (O U l6.n))
    clear St7 K5 L44 hs6
    go_wp2_with fail
    go_roundw
    case rel=>exact ⟨k,l6,oM,by go_num,HS,DF⟩
    case measure=>simp [intOf] <;> omega
  ·obtain rfl:k=0:=oM
   clear wQ
   have yE : ¬ (0:Int) < ((0:Nat):Int):=oM
   have L5:=HS.out.lies
   have L4:=DF.out
   obtain ⟨d0,d1,d2⟩:=cells3 L5
   obtain ⟨e0,e1,e2⟩:=cells3 L4
   obtain ⟨f0,f1,f2⟩:=frz3 L4
   have n45:g4 ≠ g4+1:=oM
   have yW:=jZ (HS.out.mono (show _≤m+1000 by omega) (show 6 - 0≤6 by omega))
   clear HS
   have HH:=jZ h4
   have MX:=jZ xU
   clear h4 xU
   go_wp2_with fail
   refine bodyPost_ret (v:=l.val) (by simp [results,Tryz.results163,go_sem, *]) rfl ⟨l,rfl,yW.out.sz, ?_, ?_⟩
   ·exact yW.out.env.wrote (dQ _ g4 _ _ _) HH.out.2 HH.out.1
   ·exact bn yW.out.gr (dQ _ g4 _ _ _) MX.out
def wk (l:Lg):Prop:=l.D.size+l.P.size≤30000∧-10≤l.n∧l.n≤1000
set_option maxRecDepth 100000 in
theorem ss (g:Nat) (A:Option Addr) (bs:List UInt8) (cap m:Nat) (w W:World) (hm:m≤600000000) (E0:eZ w W g A bs cap m) :
  Calls wH 109 #[.pointer (some ⟨g,0,none⟩)] W fun e w'=>∃ l:Lg,e=.returned l.val∧(wk l∧l.P.size≤5000)∧eZ w w' g A bs cap (m+2000)∧W.grownBy w' (some g):=by
 have hgW:=E0.lt
 have hwW:=E0.gr.size
 go_enter Tryz.func109,Tryz.ntmps109
 go_wp2_with fail
 have E1:=E0.alloc (.cells #[wG ⟨#[]⟩,wG ⟨#[]⟩,O U 0] 27)
 have L4:=ai.new W 27 #[wG ⟨#[]⟩,wG ⟨#[]⟩,O U 0]
 have G1:=World.grownBy_alloc W (.cells #[wG ⟨#[]⟩,wG ⟨#[]⟩,O U 0] 27) (some g)
 generalize W.alloc (.cells #[wG ⟨#[]⟩,wG ⟨#[]⟩,O U 0] 27)=W1 at E1 L4 G1 ⊢
 have HG:=jZ G1
 obtain ⟨g4,xC⟩ : ∃ g4,W.heap.size=g4:=⟨_,rfl⟩
 have h4:g < g4∧w.heap.size≤g4:=oM
 rw [xC] at L4
 rw [xC]
 have HQ:=jZ xC
 clear xC hgW hwW E0 G1
 refine (vO g A bs cap m w W1 oM E1).mono ?_
 rintro e W2 ⟨l,rfl,hs,E2,gr⟩
 replace L4:=L4.kept gr iE
 replace HG:=jZ (aA HG.out gr)
 clear gr E1
 go_wp2_with fail
 have E3:=E2.alloc (.cells #[wG l.D,wG l.P,O U l.n] 27)
 have L5:=ai.new W2 27 #[wG l.D,wG l.P,O U l.n]
 have h45:=L4.lt
 replace L4:=L4.alloc (.cells #[wG l.D,wG l.P,O U l.n] 27)
 replace HG:=jZ (aA HG.out (World.grownBy_alloc W2 (.cells #[wG l.D,wG l.P,O U l.n] 27) (some g)))
 generalize W2.alloc (.cells #[wG l.D,wG l.P,O U l.n] 27)=W3 at E3 L5 L4 HG ⊢
 generalize W2.heap.size=g5 at L5 h45 ⊢
 refine (dF E3 24 oM oM).mono ?_
 rintro e W7 ⟨x,rfl,hx,E7,gr⟩
 replace L4:=L4.kept gr iE
 replace L5:=L5.kept gr iE
 replace HG:=jZ (aA HG.out gr)
 have Al:w.heap.size≤g5:=oM
 obtain ⟨FD,Iw,Cc⟩:=hs
 clear gr E3 E2
 have hc:x=0 ∨ x=1 ∨ x=2 ∨ 3≤x:=oM
 clear hx
 rcases hc with rfl | rfl | rfl | h5
 ·have AZ:IntKind.i64.wrap (l.n+1)=l.n+1:=IntWalk.i64_in _ oM
  have HE:=jZ E7
  clear E7
  obtain ⟨d0,d1,d2⟩:=cells3 L5
  obtain ⟨e0,e1,e2⟩:=cells3 L4
  obtain ⟨f0,f1,f2⟩:=frz3 L4
  obtain ⟨p0,p1,p2⟩:=frz3 L5
  have HL:=jZ (And.intro h4 (And.intro h45 Al))
  have HZ:Hid ((wk (⟨l.D,l.P,l.n+1⟩ : Lg)∧(⟨l.D,l.P,l.n+1⟩ : Lg).P.size≤5000)):=⟨⟨by simp only; omega,by simp only; omega,by simp only; omega⟩,by simp only; omega⟩
  clear h4 Al FD Iw Cc
  go_upto_region 9 with fail
  repeat (first | go_values | go_skip | go_guarded | go_step | go_upon | simp only [])
  refine bodyPost_ret (v:=(⟨l.D,l.P,l.n+1⟩ : Lg).val) (by simp [results,Tryz.results109,go_sem, *]) rfl ⟨⟨l.D,l.P,l.n+1⟩,rfl,HZ.out, ?_, ?_⟩
  ·exact ((HE.out.wrote (h:=g5) (ab jG) HL.out.2.2 (by have:=HL.out; omega)).wrote (h:=g4) (dQ _ g4 _ _ _) HL.out.1.2 HL.out.1.1).mono oM
  ·exact bn (bn HG.out (ab (g:=g5) jG) (by have:=HL.out; have:=HQ.out; omega)) (dQ _ g4 _ _ _) (by have:=HQ.out; omega)
 ·have k1:=L5.cell 1
  simp only [gz0,gz1] at k1
  go_wp2_with fail
  refine (nZ g A cap _ bs l.P ⟨#[35,64,10,48,49]⟩ w W7 dD dD oM oM E7).mono ?_
  rintro e W8 ⟨y,rfl,hy,E8,gr⟩
  replace L4:=L4.kept gr iE
  replace L5:=L5.kept gr iE
  replace HG:=jZ (aA HG.out gr)
  clear gr E7 k1
  have HE:=jZ E8
  clear E8
  obtain ⟨d0,d1,d2⟩:=cells3 L5
  obtain ⟨e0,e1,e2⟩:=cells3 L4
  obtain ⟨f0,f1,f2⟩:=frz3 L4
  obtain ⟨p0,p1,p2⟩:=frz3 L5
  have HL:=jZ (And.intro h4 (And.intro h45 Al))
  have HZ:Hid ((wk (⟨l.D,y,l.n⟩ : Lg)∧(⟨l.D,y,l.n⟩ : Lg).P.size≤5000)):=⟨⟨by simp only; omega,by simp only; omega,by simp only; omega⟩,by simp only; omega⟩
  clear h4 Al FD Iw Cc
  go_upto_region 9 with fail
  repeat (first | go_values | go_skip | go_guarded | go_step | go_upon | simp only [])
  refine bodyPost_ret (v:=(⟨l.D,y,l.n⟩ : Lg).val) (by simp [results,Tryz.results109,go_sem, *]) rfl ⟨⟨l.D,y,l.n⟩,rfl,HZ.out, ?_, ?_⟩
  ·exact ((HE.out.wrote (h:=g5) (ab jG) HL.out.2.2 (by have:=HL.out; omega)).wrote (h:=g4) (dQ _ g4 _ _ _) HL.out.1.2 HL.out.1.1).mono oM
  ·exact bn (bn HG.out (ab (g:=g5) jG) (by have:=HL.out; have:=HQ.out; omega)) (dQ _ g4 _ _ _) (by have:=HQ.out; omega)
 ·have y1:=bg l.D l.P
  have EI:=FD
  have HE:=jZ E7
  clear E7
  obtain ⟨d0,d1,d2⟩:=cells3 L5
  obtain ⟨e0,e1,e2⟩:=cells3 L4
  obtain ⟨f0,f1,f2⟩:=frz3 L4
  obtain ⟨p0,p1,p2⟩:=frz3 L5
  have HL:=jZ (And.intro h4 (And.intro h45 Al))
  have HZ:Hid ((wk (⟨l.D++l.P,l.P,l.n⟩ : Lg)∧(⟨l.D++l.P,l.P,l.n⟩ : Lg).P.size≤5000)):=⟨⟨by simp only; omega,by simp only; omega,by simp only; omega⟩,by simp only; omega⟩
  clear h4 Al FD Iw Cc
  go_upto_region 9 with fail
  repeat (first | go_values | go_skip | go_guarded | go_step | go_upon | simp only [])
  refine bodyPost_ret (v:=(⟨l.D++l.P,l.P,l.n⟩ : Lg).val) (by simp [results,Tryz.results109,go_sem, *]) rfl ⟨⟨l.D++l.P,l.P,l.n⟩,rfl,HZ.out, ?_, ?_⟩
  ·exact ((HE.out.wrote (h:=g5) (ab jG) HL.out.2.2 (by have:=HL.out; omega)).wrote (h:=g4) (dQ _ g4 _ _ _) HL.out.1.2 HL.out.1.1).mono oM
  ·exact bn (bn HG.out (ab (g:=g5) jG) (by have:=HL.out; have:=HQ.out; omega)) (dQ _ g4 _ _ _) (by have:=HQ.out; omega)
 ·have b0:((x:Int) == 0)=false:=by rw [beq_eq_false_iff_ne]; omega
  have b1:((x:Int) == 1)=false:=by rw [beq_eq_false_iff_ne]; omega
  have b2:((x:Int) == 2)=false:=by rw [beq_eq_false_iff_ne]; omega
  clear h5
  have HE:=jZ E7
  clear E7
  obtain ⟨d0,d1,d2⟩:=cells3 L5
  obtain ⟨e0,e1,e2⟩:=cells3 L4
  obtain ⟨f0,f1,f2⟩:=frz3 L4
  obtain ⟨p0,p1,p2⟩:=frz3 L5
  have HL:=jZ (And.intro h4 (And.intro h45 Al))
  have HZ:Hid ((wk (⟨l.D,l.P,l.n⟩ : Lg)∧(⟨l.D,l.P,l.n⟩ : Lg).P.size≤5000)):=⟨⟨by simp only; omega,by simp only; omega,by simp only; omega⟩,by simp only; omega⟩
  clear h4 Al FD Iw Cc
  go_upto_region 9 with fail
  repeat (first | go_values | go_skip | go_guarded | go_step | go_upon | simp only [])
  refine bodyPost_ret (v:=(⟨l.D,l.P,l.n⟩ : Lg).val) (by simp [results,Tryz.results109,go_sem, *]) rfl ⟨⟨l.D,l.P,l.n⟩,rfl,HZ.out, ?_, ?_⟩
  ·exact (HE.out.wrote (h:=g4) (dQ _ g4 _ _ _) HL.out.1.2 HL.out.1.1).mono oM
  ·exact bn HG.out (dQ _ g4 _ _ _) (by have:=HQ.out; omega)
end Go.Proofs.YtoeoimhemojdeaaGreatDoor
