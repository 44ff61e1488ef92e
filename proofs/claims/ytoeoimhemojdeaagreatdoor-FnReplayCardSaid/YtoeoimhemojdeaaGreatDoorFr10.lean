/- Lemmas. -/
import Derived.Laws.OwnMore
import Derived.Lib.ItoaNum
import Derived.Lib.ItoaLen
import Derived.Lib.AtoiTie
import Derived.Test.YtoeoimhemojdeaaGreatDoorFr09

set_option linter.unusedVariables false
set_option linter.unusedSimpArgs false
set_option maxHeartbeats 8000000
open Go.Value renaming int → O, slice → F, string → xh
open Go.IntKind renaming i64 → U
open Go.Proofs.Tryz renaming prog → xi

namespace Go.Proofs.YtoeoimhemojdeaaGreatDoor
open Go.RowKit
set_option maxRecDepth 100000 in
theorem gW (x:aN) (l:Lg) (za:wR x) (g:Nat) (A:Option Addr) (bs:List UInt8) (cap m:Nat) (w W:World) (hm:m≤700000000) (ht:x.t.length≤100000) (ho:x.o.length≤100000) (E0:fb w W g A bs cap m) (hR:aQ W W.heap.size x) (Em:∀ b,x.TA.map (·.block)=some b→b ≠ g) (IP:∀ b,x.OA.map (·.block)=some b→b ≠ g) :
  Calls xi 64 #[.pointer (some ⟨g,0,none⟩),aK x l] W fun e w'=>∃ s:ByteArray,e=.returned (xh s)∧s.size≤500∧fb w w' g A bs cap (m+200)∧W.grownBy w' (some g):=by
 have hB:=E0.lt
 have hwW:=E0.gr.size
 have xo:Below W.heap.size W (W.alloc (.cells #[F x.TA x.t.length x.tc,F x.OA x.o.length x.oc,O U x.gt,O U x.sd,O U x.ms,xh l.D,xh l.P,O U l.n] 42)):=bZ W (.cells #[F x.TA x.t.length x.tc,F x.OA x.o.length x.oc,O U x.gt,O U x.sd,O U x.ms,xh l.D,xh l.P,O U l.n] 42)
 have L3:=ai.new W 42 #[F x.TA x.t.length x.tc,F x.OA x.o.length x.oc,O U x.gt,O U x.sd,O U x.ms,xh l.D,xh l.P,O U l.n]
 have E1:=E0.alloc (.cells #[F x.TA x.t.length x.tc,F x.OA x.o.length x.oc,O U x.gt,O U x.sd,O U x.ms,xh l.D,xh l.P,O U l.n] 42)
 have G1:W.grownBy (W.alloc (.cells #[F x.TA x.t.length x.tc,F x.OA x.o.length x.oc,O U x.gt,O U x.sd,O U x.ms,xh l.D,xh l.P,O U l.n] 42)) (some g):=bJ xo _
 have R1:=hR.up xo nR
 clear xo E0 hR
 obtain ⟨c0,c1,c2,c3,c4,c5,c6,c7⟩:=cells8 L3
 go_enter Tryz.func64,Tryz.ntmps64
 go_wp2_with fail
 generalize (W.alloc (.cells #[F x.TA x.t.length x.tc,F x.OA x.o.length x.oc,O U x.gt,O U x.sd,O U x.ms,xh l.D,xh l.P,O U l.n] 42))=W1 at E1 L3 G1 R1 c0 c1 c2 c3 c4 c5 c6 c7 ⊢
 refine (jY x za g A bs cap m w W1 oM ht ho E1 R1 Em IP).mono ?_
 rintro e W2 ⟨s,rfl,Nb,E2,gr2⟩
 have G2:=aA G1 gr2
 clear c0 c1 c2 c3 c4 c5 c6 c7 L3 G1 gr2 E1 R1
 obtain ⟨xp,xn,xB,xy⟩:=Nb
 have IY:=jZ xn
 have LE:=jZ xB
 have Nc:=jZ xy
 clear xp xn xB xy
 have L5:=ai.new W2 112 #[O U s.kind,O U s.stamp,O U s.person,O U s.value]
 have E3:=E2.alloc (.cells #[O U s.kind,O U s.stamp,O U s.person,O U s.value] 112)
 have G3:W.grownBy (W2.alloc (.cells #[O U s.kind,O U s.stamp,O U s.person,O U s.value] 112)) (some g):=cr G2 _
 have y5:g < W2.heap.size:=by have:=G2.size; omega
 go_wp2_with fail
 generalize (W2.alloc (.cells #[O U s.kind,O U s.stamp,O U s.person,O U s.value] 112))=W3 at L5 E3 G3 ⊢
 generalize W2.heap.size=g5 at L5 y5 ⊢
 clear E2 G2
 refine al (fun _=>(fun W9=>Below W3.heap.size W3 W9)) (fun _ w1 w2=>Below w1.heap.size w1 w2) kZ kZ kZ jB.drew ?_
 simp only [ax,Act.put,sA,gs0,gs1,Nat.zero_add,Nat.reduceAdd]
 refine aa _ vp0 ?_
 refine aa _ (vp1c1 0 L5 1) ?_
 refine sm0 [] (fun v _=>∃ t:ByteArray,v=xh t∧t.size≤101) (fun vs L9 w9 xl xj hB K9 xk=>?_) ?_
 next =>
  have d1:=fe hB 1
  simp only [d1] at xk ⊢
  simp only [Act.put,sA,gs0,gs1] at xk
  go_simp
  refine (lj _ _ IY.out.1 IY.out.2).mono ?_
  rintro en w8 ⟨t8,rfl,Cb,xm⟩
  exact xk _ _ _ rfl ⟨t8,rfl,Cb⟩ (xj.trans (xm.mono xj.size)) (xm)
 refine aa _ vp0 ?_
 refine aa _ (vp1c1 3 L5 2) ?_
 refine sm0 [] (fun v _=>∃ t:ByteArray,v=xh t∧t.size≤101) (fun vs L9 w9 xl xj hB K9 xk=>?_) ?_
 next =>
  have d4:=fe hB 4
  simp only [d4] at xk ⊢
  simp only [Act.put,sA,gs0,gs1] at xk
  go_simp
  refine (lj _ _ LE.out.1 LE.out.2).mono ?_
  rintro en w8 ⟨t8,rfl,Cb,xm⟩
  exact xk _ _ _ rfl ⟨t8,rfl,Cb⟩ (xj.trans (xm.mono xj.size)) (xm)
 refine aa _ vp0 ?_
 refine aa _ (vp1c1 6 L5 3) ?_
 refine sm0 [] (fun v _=>∃ z:Int,v=O U z∧Bd z) (fun vs L9 w9 xl xj hB K9 xk=>?_) ?_
 next =>
  have d7:=fe hB 7
  simp only [d7] at xk ⊢
  simp only [Act.put,sA,gs0,gs1] at xk
  go_simp
  refine (qh _ _ _).mono ?_
  rintro en w8 ⟨⟨x8,rfl,zi⟩,xm⟩
  exact xk _ _ _ rfl ⟨x8,rfl,by rcases zi with rfl | rfl; exact ⟨dD,dD⟩; exact Nc.out⟩ (xj.trans (xm.mono xj.size)) (xm)
 refine sm0 [] (fun v _=>∃ t:ByteArray,v=xh t∧t.size≤101) (fun vs L9 w9 xl xj hB K9 xk=>?_) ?_
 next =>
  simp only [Act.put,sA,gs0,gs1] at xk
  obtain ⟨z8,e8,zb8⟩:=fs hB 8
  simp only [e8] at xk ⊢
  go_simp
  refine (lj _ _ zb8.1 zb8.2).mono ?_
  rintro en w8 ⟨t8,rfl,Cb,xm⟩
  exact xk _ _ _ rfl ⟨t8,rfl,Cb⟩ (xj.trans (xm.mono xj.size)) (xm)
 refine sm0 [] (fun v _=>∃ t:ByteArray,v=xh t∧t.size≤101) (fun vs L9 w9 xl xj hB K9 xk=>?_) ?_
 next =>
  simp only [Act.put,sA,gs0,gs1] at xk
  obtain ⟨t8,e8,Cb⟩:=fs hB 2
  simp only [e8] at xk ⊢
  go_simp
  exact xk _ _ _ rfl ⟨t8,rfl,Cb⟩ xj jB
 refine sm0 [] (fun v _=>∃ t:ByteArray,v=xh t∧t.size≤101) (fun vs L9 w9 xl xj hB K9 xk=>?_) ?_
 next =>
  simp only [Act.put,sA,gs0,gs1] at xk
  obtain ⟨t8,e8,Cb⟩:=fs hB 5
  simp only [e8] at xk ⊢
  go_simp
  exact xk _ _ _ rfl ⟨t8,rfl,Cb⟩ xj jB
 refine sm0 [] (fun v _=>∃ t:ByteArray,v=xh t∧t.size≤101) (fun vs L9 w9 xl xj hB K9 xk=>?_) ?_
 next =>
  simp only [Act.put,sA,gs0,gs1] at xk
  obtain ⟨t8,e8,Cb⟩:=fs hB 9
  simp only [e8] at xk ⊢
  go_simp
  exact xk _ _ _ rfl ⟨t8,rfl,Cb⟩ xj jB
 refine au fun vs L9 W4 xv xj hB=>?_
 obtain ⟨kt,ek,hk⟩:=hB 10 _ rfl rfl dD
 obtain ⟨pt,ep,hp⟩:=hB 11 _ rfl rfl dD
 obtain ⟨vt,ev,hv⟩:=hB 12 _ rfl rfl dD
 simp only [ek,ep,ev]
 clear hB xv ek ep ev
 have E4:=E3.below xj
 have L5:=L5.below xj L5.lt
 have G4:=aA G3 (bJ xj _)
 clear xj E3 G3
 have z0:(⟨#[103,101,116,32]⟩ : ByteArray).size=4:=rfl
 have z1:(⟨#[115,104,111,119,32]⟩ : ByteArray).size=5:=rfl
 have z2:(⟨#[98,97,99,107,32]⟩ : ByteArray).size=5:=rfl
 have z3:(⟨#[115,101,108,108,32]⟩ : ByteArray).size=5:=rfl
 have z4:(⟨#[109,105,115,115,32]⟩ : ByteArray).size=5:=rfl
 have z5:(⟨#[109,111,118,101,32]⟩ : ByteArray).size=5:=rfl
 have z6:(⟨#[32]⟩ : ByteArray).size=1:=rfl
 have z7:(⟨#[119,105,116,104,32]⟩ : ByteArray).size=5:=rfl
 have z8:(⟨#[116,101,120,116,32]⟩ : ByteArray).size=5:=rfl
 have k0:=L5.cell 0
 simp only [List.getElem?_cons_zero] at k0
 go_wp2_with fail
 refine (dp E4 6 oM oM).mono ?_
 rintro e W5 ⟨i,rfl,hi,E5,gr5⟩
 have K0:=L5.kept gr5 iE
 have k1:=K0.cell 0
 simp only [List.getElem?_cons_zero] at k1
 have HG:=jZ (aA G4 gr5)
 have HE:=jZ (E5.mono (show _≤m+180 by omega))
 clear E4 G4 E5 gr5 L5 K0 k0
 have hi' : (i=0 ∨ i=1 ∨ i=2 ∨ i=3) ∨ i=4 ∨ i=5:=oM
 clear hi
 rcases hi' with hi | rfl | rfl
 ·have hk:s.kind=1 ∨ s.kind=2 ∨ s.kind=3 ∨ s.kind=4 ∨ s.kind=5 ∨ (¬ s.kind=1∧¬ s.kind=2∧¬ s.kind=3∧¬ s.kind=4∧¬ s.kind=5):=oM
  generalize s.kind=sk at k1 hk
  rcases hk with rfl | rfl | rfl | rfl | rfl | ⟨n1,n2,n3,n4,n5⟩
  ·rcases hi with rfl | rfl | rfl | rfl
   all_goals
    go_wp2
    go_ret
    exact ⟨_,rfl,by first | omega | (simp only [bg]; omega),HE.out.mono oM,HG.out⟩
  ·rcases hi with rfl | rfl | rfl | rfl
   all_goals
    go_wp2
    go_ret
    exact ⟨_,rfl,by first | omega | (simp only [bg]; omega),HE.out.mono oM,HG.out⟩
  ·rcases hi with rfl | rfl | rfl | rfl
   all_goals
    go_wp2
    go_ret
    exact ⟨_,rfl,by first | omega | (simp only [bg]; omega),HE.out.mono oM,HG.out⟩
  ·rcases hi with rfl | rfl | rfl | rfl
   all_goals
    go_wp2
    go_ret
    exact ⟨_,rfl,by first | omega | (simp only [bg]; omega),HE.out.mono oM,HG.out⟩
  ·rcases hi with rfl | rfl | rfl | rfl
   all_goals
    go_wp2
    go_ret
    exact ⟨_,rfl,by first | omega | (simp only [bg]; omega),HE.out.mono oM,HG.out⟩
  ·have f1:(sk == 1)=false:=by simp [n1]
   have f2:(sk == 2)=false:=by simp [n2]
   have f3:(sk == 3)=false:=by simp [n3]
   have f4:(sk == 4)=false:=by simp [n4]
   have f5:(sk == 5)=false:=by simp [n5]
   clear n1 n2 n3 n4 n5
   rcases hi with rfl | rfl | rfl | rfl
   all_goals
    go_wp2
    go_ret
    exact ⟨_,rfl,by first | omega | (simp only [bg]; omega),HE.out.mono oM,HG.out⟩
 ·have E6:=HE.out.alloc (.cells #[xh (⟨#[105,110]⟩),xh (⟨#[111,117,116]⟩),xh (⟨#[103,111,116]⟩),xh (⟨#[115,111,108,100]⟩),xh (⟨#[109,105,115,115,101,100]⟩),xh (⟨#[98,117,115,105,101,115,116]⟩),xh (⟨#[97,116,32,53]⟩),xh (⟨#[119,105,116,104,32]⟩++kt),xh (⟨#[116,101,120,116,32]⟩++kt)] 9)
  have L6:=ai.new W5 9 #[xh (⟨#[105,110]⟩),xh (⟨#[111,117,116]⟩),xh (⟨#[103,111,116]⟩),xh (⟨#[115,111,108,100]⟩),xh (⟨#[109,105,115,115,101,100]⟩),xh (⟨#[98,117,115,105,101,115,116]⟩),xh (⟨#[97,116,32,53]⟩),xh (⟨#[119,105,116,104,32]⟩++kt),xh (⟨#[116,101,120,116,32]⟩++kt)]
  have IZ:=HE.out.lt
  have Hn:=jZ (cr HG.out (.cells #[xh (⟨#[105,110]⟩),xh (⟨#[111,117,116]⟩),xh (⟨#[103,111,116]⟩),xh (⟨#[115,111,108,100]⟩),xh (⟨#[109,105,115,115,101,100]⟩),xh (⟨#[98,117,115,105,101,115,116]⟩),xh (⟨#[97,116,32,53]⟩),xh (⟨#[119,105,116,104,32]⟩++kt),xh (⟨#[116,101,120,116,32]⟩++kt)] 9))
  have Ho:=jZ (kH E6 W5.heap.size 9 [⟨#[105,110]⟩,⟨#[111,117,116]⟩,⟨#[103,111,116]⟩,⟨#[115,111,108,100]⟩,⟨#[109,105,115,115,101,100]⟩,⟨#[98,117,115,105,101,115,116]⟩,⟨#[97,116,32,53]⟩,⟨#[119,105,116,104,32]⟩++kt,⟨#[116,101,120,116,32]⟩++kt] rfl (by simp only [vz,List.map_cons,List.map_nil]; exact L6) oM oM oM oM)
  clear E6 L6
  go_wp2_with fail
  refine Ho.out.mono ?_
  rintro e W6 ⟨T,rfl,hT,E7,gr7⟩
  have Ja:T.size≤200:=by
   simp only [mC,mN,oF] at hT
   rcases hT with rfl | rfl | rfl | rfl | rfl | rfl | rfl | rfl | rfl <;> first | decide | (simp only [bg]; omega)
  have HE:=jZ (E7.mono (show _≤m+190 by omega))
  have HG:=jZ (aA Hn.out gr7)
  clear hT E7 gr7 Ho Hn
  go_wp2
  go_ret
  exact ⟨_,rfl,by first | omega | (simp only [bg]; omega),HE.out.mono oM,HG.out⟩
 ·have E6:=HE.out.alloc (.cells #[xh (⟨#[]⟩),xh (⟨#[119,104,97,116]⟩),xh (⟨#[103,101,116,32,49]⟩),xh (⟨#[115,104,111,119,32,120,32,49,32,49]⟩),xh (⟨#[109,105,115,115,32,49,32,48]⟩),xh (⟨#[97,116]⟩),xh (⟨#[97,116,32,48]⟩),xh (⟨#[97,64,98]⟩),xh (⟨#[105,110,32,49]⟩),xh (⟨#[98,97,99,107,32,49,32,49,32,49]⟩),xh (⟨#[116,101,120,116,32,45,49]⟩)] 9)
  have L6:=ai.new W5 9 #[xh (⟨#[]⟩),xh (⟨#[119,104,97,116]⟩),xh (⟨#[103,101,116,32,49]⟩),xh (⟨#[115,104,111,119,32,120,32,49,32,49]⟩),xh (⟨#[109,105,115,115,32,49,32,48]⟩),xh (⟨#[97,116]⟩),xh (⟨#[97,116,32,48]⟩),xh (⟨#[97,64,98]⟩),xh (⟨#[105,110,32,49]⟩),xh (⟨#[98,97,99,107,32,49,32,49,32,49]⟩),xh (⟨#[116,101,120,116,32,45,49]⟩)]
  have IZ:=HE.out.lt
  have Hn:=jZ (cr HG.out (.cells #[xh (⟨#[]⟩),xh (⟨#[119,104,97,116]⟩),xh (⟨#[103,101,116,32,49]⟩),xh (⟨#[115,104,111,119,32,120,32,49,32,49]⟩),xh (⟨#[109,105,115,115,32,49,32,48]⟩),xh (⟨#[97,116]⟩),xh (⟨#[97,116,32,48]⟩),xh (⟨#[97,64,98]⟩),xh (⟨#[105,110,32,49]⟩),xh (⟨#[98,97,99,107,32,49,32,49,32,49]⟩),xh (⟨#[116,101,120,116,32,45,49]⟩)] 9))
  have Ho:=jZ (kH E6 W5.heap.size 11 [⟨#[]⟩,⟨#[119,104,97,116]⟩,⟨#[103,101,116,32,49]⟩,⟨#[115,104,111,119,32,120,32,49,32,49]⟩,⟨#[109,105,115,115,32,49,32,48]⟩,⟨#[97,116]⟩,⟨#[97,116,32,48]⟩,⟨#[97,64,98]⟩,⟨#[105,110,32,49]⟩,⟨#[98,97,99,107,32,49,32,49,32,49]⟩,⟨#[116,101,120,116,32,45,49]⟩] rfl (by simp only [vz,List.map_cons,List.map_nil]; exact L6) oM oM oM oM)
  clear E6 L6
  go_wp2_with fail
  refine Ho.out.mono ?_
  rintro e W6 ⟨T,rfl,hT,E7,gr7⟩
  have Ja:T.size≤200:=by
   simp only [mC,mN,oF] at hT
   rcases hT with rfl | rfl | rfl | rfl | rfl | rfl | rfl | rfl | rfl | rfl | rfl <;> decide
  have HE:=jZ (E7.mono (show _≤m+190 by omega))
  have HG:=jZ (aA Hn.out gr7)
  clear hT E7 gr7 Ho Hn
  go_wp2
  go_ret
  exact ⟨_,rfl,by first | omega | (simp only [bg]; omega),HE.out.mono oM,HG.out⟩
theorem wI:(xi.info? 5).map (fun i=>(i.zero,i.size,i.bytes))=some (some (.int .u8 0),1,1):=kZ
theorem uC (n:Nat) (hn:n≤1000000) (W:World):∃ W' z,z.size=n∧Below W.heap.size W W'∧(Instr.makeSlice 54 (O U (n:Int)) (O U (n:Int))).run xi W=.ok (F (some ⟨W.heap.size,0,none⟩) n n) W' ∧
  (convert 54 9 (F (some ⟨W.heap.size,0,none⟩) n n)).run xi W'=.ok (xh z) W':=by
 have hm:=jA (P:=xi) 54 5 _ 1 1 Tryz.underlying54 wI n oM oM W
 refine ⟨_,⟨(List.replicate n 0).toArray⟩,by simp [ByteArray.size],bZ W _,hm, ?_⟩
 have hL:=ai.new W 5 (madeCells #[.int .u8 0] (n * 1))
 have hf:=kJ (W:=W.alloc (.cells (madeCells #[.int .u8 0] (n * 1)) 5)) (g:=W.heap.size) (l:=List.replicate n 0) (cap:=n) (fun j hj=>by
  rw [List.length_replicate] at hj
  rw [hL.cell,toList_madeCells_one,List.getElem?_replicate,if_pos oM,List.getD_eq_getElem?_getD,List.getElem?_replicate,if_pos hj]
  rfl)
 rw [List.length_replicate] at hf
 exact hf
theorem lg (g:Nat) (A:Option Addr) (bs:List UInt8) (cap m:Nat) (w W:World) (hm:m≤800000000) (E0:fb w W g A bs cap m) :
  Calls xi 74 #[.pointer (some ⟨g,0,none⟩)] W fun e w'=>∃ r:dj,e=.returned r.val∧(r.c.size≤20∧r.r.size≤20)∧fb w w' g A bs cap (m+8)∧W.grownBy w' (some g):=by
 have hgW:=E0.lt
 have hwW:=E0.gr.size
 go_enter Tryz.func74,Tryz.ntmps74
 go_wp2_with fail
 have E1:=(E0.alloc (.cells #[xh ⟨#[]⟩,xh ⟨#[]⟩] 62)).alloc (.cells #[xh ⟨#[99,111,117,110,116]⟩,xh ⟨#[115,111,114,116,32,109,101,114,103,101]⟩,xh ⟨#[120]⟩,xh ⟨#[115,101,108,101,99,116,32,50]⟩,xh ⟨#[48,32,49]⟩] 9)
 have L4:=(ai.new W 62 #[xh ⟨#[]⟩,xh ⟨#[]⟩]).alloc (.cells #[xh ⟨#[99,111,117,110,116]⟩,xh ⟨#[115,111,114,116,32,109,101,114,103,101]⟩,xh ⟨#[120]⟩,xh ⟨#[115,101,108,101,99,116,32,50]⟩,xh ⟨#[48,32,49]⟩] 9)
 have Li:=ai.newB W (.cells #[xh ⟨#[]⟩,xh ⟨#[]⟩] 62) 9 #[xh ⟨#[99,111,117,110,116]⟩,xh ⟨#[115,111,114,116,32,109,101,114,103,101]⟩,xh ⟨#[120]⟩,xh ⟨#[115,101,108,101,99,116,32,50]⟩,xh ⟨#[48,32,49]⟩]
 have G1:=aA (World.grownBy_alloc W (.cells #[xh ⟨#[]⟩,xh ⟨#[]⟩] 62) (some g)) (World.grownBy_alloc _ (.cells #[xh ⟨#[99,111,117,110,116]⟩,xh ⟨#[115,111,114,116,32,109,101,114,103,101]⟩,xh ⟨#[120]⟩,xh ⟨#[115,101,108,101,99,116,32,50]⟩,xh ⟨#[48,32,49]⟩] 9) (some g))
 generalize (W.alloc (.cells #[xh ⟨#[]⟩,xh ⟨#[]⟩] 62)).alloc (.cells #[xh ⟨#[99,111,117,110,116]⟩,xh ⟨#[115,111,114,116,32,109,101,114,103,101]⟩,xh ⟨#[120]⟩,xh ⟨#[115,101,108,101,99,116,32,50]⟩,xh ⟨#[48,32,49]⟩] 9)=W1 at E1 L4 Li G1 ⊢
 have HG:=jZ G1; clear G1 E0
 obtain ⟨g4,yb⟩ : ∃ g4,W.heap.size=g4:=⟨_,rfl⟩
 have h4:g < g4∧w.heap.size≤g4:=oM
 rw [yb] at L4 Li
 rw [yb]
 have HQ:=jZ yb
 clear yb hgW hwW
 refine (kH E1 (g4+1) 5 [⟨#[99,111,117,110,116]⟩,⟨#[115,111,114,116,32,109,101,114,103,101]⟩,⟨#[120]⟩,⟨#[115,101,108,101,99,116,32,50]⟩,⟨#[48,32,49]⟩] rfl Li oM oM oM oM).mono ?_
 rintro e W2 ⟨x1,rfl,Fz,E2,gr⟩
 have Nd:x1.size≤20:=by
  simp only [mC,mN,oF] at Fz
  rcases Fz with rfl | rfl | rfl | rfl | rfl <;> decide
 replace L4:=L4.kept gr iE
 replace HG:=jZ (aA HG.out gr)
 clear gr E1 Li Fz
 go_wp2_with fail
 have Li:=ai.new W2 9 #[xh ⟨#[]⟩,xh ⟨#[51]⟩,xh ⟨#[63]⟩,xh ⟨#[97,64,98]⟩,xh ⟨#[51,32,49,32,50]⟩]
 have Ei:=E2.alloc (.cells #[xh ⟨#[]⟩,xh ⟨#[51]⟩,xh ⟨#[63]⟩,xh ⟨#[97,64,98]⟩,xh ⟨#[51,32,49,32,50]⟩] 9)
 replace L4:=L4.alloc (.cells #[xh ⟨#[]⟩,xh ⟨#[51]⟩,xh ⟨#[63]⟩,xh ⟨#[97,64,98]⟩,xh ⟨#[51,32,49,32,50]⟩] 9)
 replace HG:=jZ (aA HG.out (World.grownBy_alloc W2 (.cells #[xh ⟨#[]⟩,xh ⟨#[51]⟩,xh ⟨#[63]⟩,xh ⟨#[97,64,98]⟩,xh ⟨#[51,32,49,32,50]⟩] 9) (some g)))
 have hl:=E2.lt
 generalize W2.alloc (.cells #[xh ⟨#[]⟩,xh ⟨#[51]⟩,xh ⟨#[63]⟩,xh ⟨#[97,64,98]⟩,xh ⟨#[51,32,49,32,50]⟩] 9)=Wi at Li Ei HG L4 ⊢
 generalize W2.heap.size=gi at Li hl ⊢
 refine (kH Ei gi 5 [⟨#[]⟩,⟨#[51]⟩,⟨#[63]⟩,⟨#[97,64,98]⟩,⟨#[51,32,49,32,50]⟩] rfl Li oM oM oM oM).mono ?_
 rintro e W3 ⟨x2,rfl,FA,E3,gr⟩
 have Nf:x2.size≤20:=by
  simp only [mC,mN,oF] at FA
  rcases FA with rfl | rfl | rfl | rfl | rfl <;> first | decide | omega
 replace L4:=L4.kept gr iE
 replace HG:=jZ (aA HG.out gr)
 clear gr Ei Li hl E2 FA
 go_wp2_with fail
 have E6:=E3.alloc (.cells #[xh x1,xh x2] 62)
 have L5:=ai.new W3 62 #[xh x1,xh x2]
 have h45:=L4.lt
 replace L4:=L4.alloc (.cells #[xh x1,xh x2] 62)
 replace HG:=jZ (aA HG.out (World.grownBy_alloc W3 (.cells #[xh x1,xh x2] 62) (some g)))
 generalize W3.alloc (.cells #[xh x1,xh x2] 62)=W6 at E6 L5 L4 HG ⊢
 generalize W3.heap.size=g5 at L5 h45 ⊢
 clear E3
 refine (dp E6 24 oM oM).mono ?_
 rintro e W7 ⟨x,rfl,hx,E7,gr⟩
 replace L4:=L4.kept gr iE
 replace L5:=L5.kept gr iE
 replace HG:=jZ (aA HG.out gr)
 have Cc:w.heap.size≤g5:=oM
 clear gr E6
 have hc:x=0 ∨ x=1 ∨ 2≤x:=oM
 clear hx
 rcases hc with rfl | rfl | h5
 ·obtain ⟨W8,z,hz,xm,Hp,Ng⟩:=uC 3 oM W7
  have Hp:(Instr.makeSlice 54 (O U 3) (O U 3)).run xi W7=.ok (F (some ⟨W7.heap.size,0,none⟩) 3 3) W8:=Hp
  have E8:=E7.below xm
  replace L4:=L4.below xm L4.lt
  replace L5:=L5.below xm L5.lt
  replace HG:=jZ (aA HG.out (bJ xm (some g)))
  clear xm
  go_upto_region 4 with fail
  go_wp2_with fail
  clear Hp Ng
  have Li:=ai.new W8 9 #[xh ⟨#[]⟩,xh ⟨#[97,64,98]⟩,xh ⟨#[97,35]⟩,xh ⟨#[10]⟩,xh z]
  have Ei:=E8.alloc (.cells #[xh ⟨#[]⟩,xh ⟨#[97,64,98]⟩,xh ⟨#[97,35]⟩,xh ⟨#[10]⟩,xh z] 9)
  replace L4:=L4.alloc (.cells #[xh ⟨#[]⟩,xh ⟨#[97,64,98]⟩,xh ⟨#[97,35]⟩,xh ⟨#[10]⟩,xh z] 9)
  replace L5:=L5.alloc (.cells #[xh ⟨#[]⟩,xh ⟨#[97,64,98]⟩,xh ⟨#[97,35]⟩,xh ⟨#[10]⟩,xh z] 9)
  replace HG:=jZ (aA HG.out (World.grownBy_alloc W8 (.cells #[xh ⟨#[]⟩,xh ⟨#[97,64,98]⟩,xh ⟨#[97,35]⟩,xh ⟨#[10]⟩,xh z] 9) (some g)))
  have hl:=E8.lt
  generalize W8.alloc (.cells #[xh ⟨#[]⟩,xh ⟨#[97,64,98]⟩,xh ⟨#[97,35]⟩,xh ⟨#[10]⟩,xh z] 9)=Wi at Li Ei HG L4 L5 ⊢
  generalize W8.heap.size=gi at Li hl ⊢
  refine (kH Ei gi 5 [⟨#[]⟩,⟨#[97,64,98]⟩,⟨#[97,35]⟩,⟨#[10]⟩,z] rfl Li oM oM oM oM).mono ?_
  rintro e W9 ⟨y,rfl,FB,E9,gr⟩
  have Nh:y.size≤20:=by
   simp only [mC,mN,oF] at FB
   rcases FB with rfl | rfl | rfl | rfl | rfl <;> first | decide | omega
  replace L4:=L4.kept gr iE
  replace L5:=L5.kept gr iE
  replace HG:=jZ (aA HG.out gr)
  clear gr Ei Li hl E8 FB
  have HE:=jZ E9
  clear E9 hz E7
  obtain ⟨d0,d1⟩:=cells2 L5
  obtain ⟨e0,e1⟩:=cells2 L4
  obtain ⟨f0,f1⟩:=frz2 L4
  obtain ⟨p0,p1⟩:=frz2 L5
  have HL:=jZ (And.intro h4 (And.intro h45 Cc))
  clear h4 Cc
  repeat (first | go_values | go_skip | go_guarded | go_step | go_upon | simp only [])
  refine bodyPost_ret (v:=(dj.mk y x2).val) (by simp [results,Tryz.results74,go_sem, *]) rfl ⟨⟨y,x2⟩,rfl,⟨by assumption,by assumption⟩, ?_, ?_⟩
  ·exact ((HE.out.wrote (h:=g5) (ab jG) HL.out.2.2 (by have:=HL.out; omega)).wrote (h:=g4) (ab (ab jG)) HL.out.1.2 HL.out.1.1).mono oM
  ·exact bf (bf HG.out (ab (g:=g5) jG) (by have:=HL.out; have:=HQ.out; omega)) (ab (g:=g4) (ab jG)) (by have:=HQ.out; omega)
 ·go_wp2_with fail
  have Li:=ai.new W7 9 #[xh ⟨#[35]⟩,xh ⟨#[10]⟩,xh ⟨#[127]⟩]
  have Ei:=E7.alloc (.cells #[xh ⟨#[35]⟩,xh ⟨#[10]⟩,xh ⟨#[127]⟩] 9)
  replace L4:=L4.alloc (.cells #[xh ⟨#[35]⟩,xh ⟨#[10]⟩,xh ⟨#[127]⟩] 9)
  replace L5:=L5.alloc (.cells #[xh ⟨#[35]⟩,xh ⟨#[10]⟩,xh ⟨#[127]⟩] 9)
  replace HG:=jZ (aA HG.out (World.grownBy_alloc W7 (.cells #[xh ⟨#[35]⟩,xh ⟨#[10]⟩,xh ⟨#[127]⟩] 9) (some g)))
  have hl:=E7.lt
  generalize W7.alloc (.cells #[xh ⟨#[35]⟩,xh ⟨#[10]⟩,xh ⟨#[127]⟩] 9)=Wi at Li Ei HG L4 L5 ⊢
  generalize W7.heap.size=gi at Li hl ⊢
  refine (kH Ei gi 3 [⟨#[35]⟩,⟨#[10]⟩,⟨#[127]⟩] rfl Li oM oM oM oM).mono ?_
  rintro e W8 ⟨y,rfl,FB,E8,gr⟩
  have Nh:y.size≤20:=by
   simp only [mC,mN,oF] at FB
   rcases FB with rfl | rfl | rfl <;> first | decide | omega
  replace L4:=L4.kept gr iE
  replace L5:=L5.kept gr iE
  replace HG:=jZ (aA HG.out gr)
  clear gr Ei Li hl E7 FB
  have HE:=jZ E8
  clear E8
  obtain ⟨d0,d1⟩:=cells2 L5
  obtain ⟨e0,e1⟩:=cells2 L4
  obtain ⟨f0,f1⟩:=frz2 L4
  obtain ⟨p0,p1⟩:=frz2 L5
  have HL:=jZ (And.intro h4 (And.intro h45 Cc))
  clear h4 Cc
  repeat (first | go_values | go_skip | go_guarded | go_step | go_upon | simp only [])
  refine bodyPost_ret (v:=(dj.mk x1 y).val) (by simp [results,Tryz.results74,go_sem, *]) rfl ⟨⟨x1,y⟩,rfl,⟨by assumption,by assumption⟩, ?_, ?_⟩
  ·exact ((HE.out.wrote (h:=g5) (ab jG) HL.out.2.2 (by have:=HL.out; omega)).wrote (h:=g4) (ab (ab jG)) HL.out.1.2 HL.out.1.1).mono oM
  ·exact bf (bf HG.out (ab (g:=g5) jG) (by have:=HL.out; have:=HQ.out; omega)) (ab (g:=g4) (ab jG)) (by have:=HQ.out; omega)
 ·have b0:((x:Int) == 0)=false:=by rw [beq_eq_false_iff_ne]; omega
  have b1:((x:Int) == 1)=false:=by rw [beq_eq_false_iff_ne]; omega
  have E8:=E7.mono (show _≤m+2+2+2+2 by omega)
  clear h5 E7
  have HE:=jZ E8
  clear E8
  obtain ⟨d0,d1⟩:=cells2 L5
  obtain ⟨e0,e1⟩:=cells2 L4
  obtain ⟨f0,f1⟩:=frz2 L4
  obtain ⟨p0,p1⟩:=frz2 L5
  have HL:=jZ (And.intro h4 (And.intro h45 Cc))
  clear h4 Cc
  repeat (first | go_values | go_skip | go_guarded | go_step | go_upon | simp only [])
  refine bodyPost_ret (v:=(dj.mk x1 x2).val) (by simp [results,Tryz.results74,go_sem, *]) rfl ⟨⟨x1,x2⟩,rfl,⟨by assumption,by assumption⟩, ?_, ?_⟩
  ·exact (HE.out.wrote (h:=g4) (ab (ab jG)) HL.out.1.2 HL.out.1.1).mono oM
  ·exact bf HG.out (ab (g:=g4) (ab jG)) (by have:=HQ.out; omega)
noncomputable def dY (l:Lg) (e:dj):Int:=if l.ok && e.ok then (if l.n=60 then 2 else 0) else 1
noncomputable def cm (l:Lg) (e:dj):Lg:=if l.ok && e.ok then (if l.n=60 then l else ⟨l.D,l.P++⟨(bT l.n.toNat (bl e.c) (bl e.r)).toArray⟩,l.n+1⟩) else l
theorem iF {l:Lg} {e:dj} (h:(l.ok && e.ok)=false):cm l e=l∧dY l e=1:=by unfold cm dY; rw [h]; exact ⟨rfl,rfl⟩
theorem fP {l:Lg} {e:dj} (h:(l.ok && e.ok)=true) (hn:l.n=60):cm l e=l∧dY l e=2:=by unfold cm dY; rw [h,if_pos rfl,if_pos rfl,if_pos hn,if_pos hn]; exact ⟨rfl,rfl⟩
theorem fV {l:Lg} {e:dj} (h:(l.ok && e.ok)=true) (hn:l.n ≠ 60):cm l e=⟨l.D,l.P++⟨(bT l.n.toNat (bl e.c) (bl e.r)).toArray⟩,l.n+1⟩∧dY l e=0:=by unfold cm dY; rw [h,if_pos rfl,if_pos rfl,if_neg hn,if_neg hn]; exact ⟨rfl,rfl⟩
set_option maxRecDepth 100000 in
theorem gu (l:Lg) (e:dj) (w:World) (hs:l.D.size+l.P.size≤2000000) (h1:e.c.size≤1048576) (h2:e.r.size≤1048576) :
  Calls xi 48 #[l.val,e.val] w fun en w'=>en=.returned (.tuple #[(cm l e).val,O U (dY l e)])∧Below w.heap.size w w':=by
 obtain ⟨D,P,n⟩:=l
 simp only at hs
 have Cd:=@ce (bl D) (bl P) n
 have By:=cW 60 0 (bl D++bl P)
 have zB:=jZ (iF (l:=⟨D,P,n⟩) (e:=e))
 have yS:=jZ (fP (l:=⟨D,P,n⟩) (e:=e))
 have zD:=jZ (fV (l:=⟨D,P,n⟩) (e:=e))
 have HS:=jZ (fun W=>iD ⟨D,P,n⟩ W hs)
 have HG:=jZ (fun W=>gV e W oM oM)
 have b1:=((bZ w (.cells #[xh D,xh P,O U n] 27)).alloc sP (.cells #[xh e.c,xh e.r] 62)).alloc (by simp; omega) (.cells #[xh ⟨#[]⟩,xh ⟨#[]⟩,O U 0] 27)
 have L1:=((ai.new w 27 #[xh D,xh P,O U n]).alloc (.cells #[xh e.c,xh e.r] 62)).alloc (.cells #[xh ⟨#[]⟩,xh ⟨#[]⟩,O U 0] 27)
 have E1:=(ai.new (w.alloc (.cells #[xh D,xh P,O U n] 27)) 62 #[xh e.c,xh e.r]).alloc (.cells #[xh ⟨#[]⟩,xh ⟨#[]⟩,O U 0] 27)
 have N1:=ai.new ((w.alloc (.cells #[xh D,xh P,O U n] 27)).alloc (.cells #[xh e.c,xh e.r] 62)) 27 #[xh ⟨#[]⟩,xh ⟨#[]⟩,O U 0]
 have zX:(w.alloc (.cells #[xh D,xh P,O U n] 27)).heap.size=w.heap.size+1:=sP
 have ym:((w.alloc (.cells #[xh D,xh P,O U n] 27)).alloc (.cells #[xh e.c,xh e.r] 62)).heap.size=w.heap.size+2:=sP
 rw [zX] at E1
 rw [ym] at N1
 clear zX ym
 go_enter Tryz.func48,Tryz.ntmps48
 go_wp2_with fail
 generalize ((w.alloc (.cells #[xh D,xh P,O U n] 27)).alloc (.cells #[xh e.c,xh e.r] 62)).alloc (.cells #[xh ⟨#[]⟩,xh ⟨#[]⟩,O U 0] 27)=W at b1 L1 E1 N1 ⊢
 generalize hg:w.heap.size=g at L1 E1 N1 ⊢
 refine (HS.out _).mono ?_
 rintro en w2 ⟨rfl,xn⟩
 have L2:=L1.below xn L1.lt
 have E2:=E1.below xn E1.lt
 have N2:=N1.below xn N1.lt
 have c20:=L2.cell 0
 have c21:=L2.cell 1
 have c22:=L2.cell 2
 have e20:=E2.cell 0
 have e21:=E2.cell 1
 have n20:=N2.cell 0
 have n21:=N2.cell 1
 have n22:=N2.cell 2
 obtain ⟨f20,f21,f22⟩:=frz3 N2
 have yZ:=L2.lt
 have Er:=E2.lt
 have Cs:=N2.lt
 simp only [gz0,gz1] at c20 c21 c22 e20 e21 n20 n21 n22
 have Dz:Below w.heap.size w w2:=by rw [← hg] at *; exact av b1 xn
 cases xq:Lg.ok ⟨D,P,n⟩
 ·have HK:=jZ (zB.out (by rw [xq]; rfl))
  clear xq Cd By L1 E1 N1 L2 E2 N2
  go_wp2_with fail
  refine bodyPost_ret (v:=.tuple #[.agg #[xh D,xh P,O U n],O U 1]) (by simp [results,Tryz.results48,go_sem, *]) rfl ⟨by rw [HK.out.1,HK.out.2], ?_⟩
  refine Dz.trans ?_
  repeat (first | exact Below.refl _ _ | refine Below.alloc ?_ (by simp; omega) _ | refine Below.setCell ?_ (by simp; omega) _)
 ·have FC:=Cd.1 xq
  clear Cd
  obtain ⟨k,hk⟩ : ∃ k:Nat,n=(k:Int):=⟨_,FC.2.2.symm⟩
  have hk60:k≤60:=by have:=FC.2.2; omega
  clear By FC
  subst hk
  go_wp2_with fail
  refine (HG.out _).mono ?_
  rintro en w3 ⟨rfl,xB⟩
  clear c20 c21 c22 e20 e21 n20 n21 n22 f20 f21 f22 yZ Er Cs
  have L3:=L2.below xB L2.lt
  have E3:=E2.below xB E2.lt
  have N3:=N2.below xB N2.lt
  have c30:=L3.cell 0
  have c31:=L3.cell 1
  have c32:=L3.cell 2
  have e30:=E3.cell 0
  have e31:=E3.cell 1
  have n30:=N3.cell 0
  have n31:=N3.cell 1
  have n32:=N3.cell 2
  obtain ⟨f30,f31,f32⟩:=frz3 N3
  have Hq:=L3.lt
  have he3:=E3.lt
  have Jc:=N3.lt
  simp only [gz0,gz1] at c30 c31 c32 e30 e31 n30 n31 n32
  have Ce:Below w.heap.size w w3:=av Dz xB
  clear L1 E1 N1 L2 E2 N2
  cases Bh:e.ok
  ·have HK:=jZ (zB.out (by rw [xq,Bh]; rfl))
   clear xq Bh L3 E3 N3
   go_wp2_with fail
   refine bodyPost_ret (v:=.tuple #[.agg #[xh D,xh P,O U (k:Int)],O U 1]) (by simp [results,Tryz.results48,go_sem, *]) rfl ⟨by rw [HK.out.1,HK.out.2], ?_⟩
   refine Ce.trans ?_
   repeat (first | exact Below.refl _ _ | refine Below.alloc ?_ (by simp; omega) _ | refine Below.setCell ?_ (by simp; omega) _)
  ·by_cases hfull:k=60
   ·have HK:=jZ (yS.out (by rw [xq,Bh]; rfl) (by simp [hfull]))
    have d1:((k:Int) == 60)=true:=by rw [hfull]; rfl
    clear xq Bh L3 E3 N3 hfull
    go_wp2_with fail
    refine bodyPost_ret (v:=.tuple #[.agg #[xh D,xh P,O U (k:Int)],O U 2]) (by simp [results,Tryz.results48,go_sem, *]) rfl ⟨by rw [HK.out.1,HK.out.2], ?_⟩
    refine Ce.trans ?_
    repeat (first | exact Below.refl _ _ | refine Below.alloc ?_ (by simp; omega) _ | refine Below.setCell ?_ (by simp; omega) _)
   ·have HK:=jZ (zD.out (by rw [xq,Bh]; rfl) (by simp; omega))
    have d1:((k:Int) == 60)=false:=by simp; omega
    obtain ⟨ln,Bv⟩ : ∃ ln:ByteArray,ln=⟨(bT k (bl e.c) (bl e.r)).toArray⟩:=⟨_,rfl⟩
    have Ni:ln.size≤100000000:=by rw [Bv,← ao,bO]; have:=jr (k:=k) (c:=bl e.c) (r:=bl e.r) Bh oM; omega
    have BH:Hid (∀ W,Calls xi 90 #[O U (k:Int),e.val] W fun en w'=>en=.returned (xh ln)∧Below W.heap.size W w'):=fun W=>by
     rw [Bv]; exact m8 k e W oM (by have:=(dd.1 Bh).2.1; rw [ao] at this; omega) (by have:=(dd.1 Bh).2.2.2.2.2; rw [ao] at this; omega)
    have EZ:Hid (cm ⟨D,P,(k:Int)⟩ e=⟨D,P++ln,(k:Int)+1⟩∧dY ⟨D,P,(k:Int)⟩ e=0):=by
     have h:=HK.out
     rw [Int.toNat_natCast,← Bv] at h; exact h
    clear HK xq Bh Bv hfull zB yS zD
    go_wp2_with fail
    have AL:w.heap.size≤g:=oM
    refine fx (fun W9=>ai W9 g 27 [xh D,xh P,O U (k:Int)]∧ai W9 (g+1) 62 [xh e.c,xh e.r]∧ai W9 (g+1+1) 27 [xh ⟨#[]⟩,xh ⟨#[]⟩,O U 0]∧Below w.heap.size w W9) (fun _ _=>True) kZ kZ kZ kZ ⟨L3.below jB.drew L3.lt,E3.below jB.drew E3.lt,N3.below jB.drew N3.lt,Ce.drew⟩ ?_
    simp only [ax,Act.put,sA,gs0,gs1,Nat.zero_add,Nat.reduceAdd]
    clear L3 E3 N3 c30 c31 c32 e30 e31 n30 n31 n32 f30 f31 f32 Hq he3 Jc
    refine aG (.pointer (some ⟨g,1,none⟩)) (fun vs w9 xj hB K9 xk=>?_) ?_
    ·go_simp
     exact xk _ _ rfl xj trivial
    refine aG (xh P) (fun vs w9 xj hB K9 xk=>?_) ?_
    ·have Bb:=hB 0 _ kZ rfl
     simp only [Bb] at xk ⊢
     have q1:w9.cell? ⟨g,1,none⟩=some (xh P):=xj.1.cell 1
     go_simp
     exact xk _ _ rfl xj trivial
    refine aG (.pointer (some ⟨g,2,none⟩)) (fun vs w9 xj hB K9 xk=>?_) ?_
    ·go_simp
     exact xk _ _ rfl xj trivial
    refine aG (O U (k:Int)) (fun vs w9 xj hB K9 xk=>?_) ?_
    ·have AH:=hB 2 _ kZ rfl
     simp only [AH] at xk ⊢
     have q1:w9.cell? ⟨g,2,none⟩=some (O U (k:Int)):=xj.1.cell 2
     go_simp
     exact xk _ _ rfl xj trivial
    refine aG (.agg #[xh e.c,xh e.r]) (fun vs w9 xj hB K9 xk=>?_) ?_
    ·have q0:w9.cell? ⟨g+1,0,none⟩=some (xh e.c):=xj.2.1.cell 0
     have q1:w9.cell? ⟨g+1,1,none⟩=some (xh e.r):=xj.2.1.cell 1
     go_simp
     exact xk _ _ rfl xj trivial
    refine aG (xh ln) (fun vs w9 xj hB K9 xk=>?_) ?_
    ·have yB:=hB 3 _ kZ rfl
     have Fs:=hB 4 _ kZ rfl
     simp only [yB,Fs] at xk ⊢
     go_simp
     refine (BH.out _).mono ?_
     rintro en w8 ⟨rfl,xm⟩
     exact xk _ _ rfl ⟨xj.1.below xm xj.1.lt,xj.2.1.below xm xj.2.1.lt,xj.2.2.1.below xm xj.2.2.1.lt,xj.2.2.2.trans (xm.mono xj.2.2.2.size)⟩ trivial
    refine aG (xh (P++ln)) (fun vs w9 xj hB K9 xk=>?_) ?_
    ·have AG:=hB 1 _ kZ rfl
     have Ft:=hB 5 _ kZ rfl
     simp only [AG,Ft] at xk ⊢
     go_simp
     (first | (rw [if_neg oM]; go_simp) | skip)
     exact xk _ _ rfl xj trivial
    refine aG (.pointer (some ⟨g,1,none⟩)) (fun vs w9 xj hB K9 xk=>?_) ?_
    ·go_simp
     exact xk _ _ rfl xj trivial
    refine gM (fun vs w9 xj hB K9 xk=>?_)
    have Fv:=hB 6 _ rfl
    have Fu:=hB 7 _ rfl
    simp only [Fv,Fu] at xk ⊢
    obtain ⟨L9,E9,N9,B9⟩:=xj
    have c91:=L9.cell 1
    have f91:=L9.frozen 1
    simp only [gz0,gz1] at c91
    go_simp
    refine xk _ _ ?_
    have L4:=L9.set 1 (xh (P++ln))
    have E4:=E9.other (p:=⟨g,1,none⟩) sP (xh (P++ln))
    have N4:=N9.other (p:=⟨g,1,none⟩) (by simp; omega) (xh (P++ln))
    have B4:=B9.setCell (p:=⟨g,1,none⟩) AL (xh (P++ln))
    generalize w9.setCell ⟨g,1,none⟩ (xh (P++ln))=w4 at L4 E4 N4 B4 ⊢
    simp only [List.set_cons_zero,List.set_cons_succ] at L4
    have ff2:=L4.frozen 2
    clear c91 f91 L9 E9 N9 B9 hB xk
    have c40:=L4.cell 0
    have c41:=L4.cell 1
    have c42:=L4.cell 2
    have e40:=E4.cell 0
    have e41:=E4.cell 1
    have n40:=N4.cell 0
    have n41:=N4.cell 1
    have n42:=N4.cell 2
    obtain ⟨f40,f41,f42⟩:=frz3 N4
    have Nj:=L4.lt
    have Nk:=E4.lt
    have Nl:=N4.lt
    simp only [gz0,gz1] at c40 c41 c42 e40 e41 n40 n41 n42
    have Kr:(P++ln).size=P.size+ln.size:=bg _ _
    clear L4 E4 N4
    go_wp2_with fail
    refine bodyPost_ret (v:=.tuple #[.agg #[xh D,xh (P++ln),O U ((k:Int)+1)],O U 0]) (by simp [results,Tryz.results48,go_sem, *]) rfl ⟨by rw [EZ.out.1,EZ.out.2], ?_⟩
    refine B4.trans ?_
    repeat (first | exact Below.refl _ _ | refine Below.alloc ?_ (by simp; omega) _ | refine Below.setCell ?_ (by simp; omega) _)
set_option maxRecDepth 100000 in
theorem oz (l:Lg) (e:dj) (w:World) (hs:l.D.size+l.P.size≤2000000) (h1:e.c.size≤1048576) (h2:e.r.size≤1048576) (ht:jj w) :
  Calls xi 53 #[l.val,e.val] w fun en w'=>en=.returned (.tuple #[(cm l e).val,O U (dY l e)])∧Below w.heap.size w w':=by
 obtain ⟨D,P,n⟩:=l
 simp only at hs
 have Cd:=@ce (bl D) (bl P) n
 have By:=cW 60 0 (bl D++bl P)
 have zB:=jZ (iF (l:=⟨D,P,n⟩) (e:=e))
 have yS:=jZ (fP (l:=⟨D,P,n⟩) (e:=e))
 have zD:=jZ (fV (l:=⟨D,P,n⟩) (e:=e))
 have HS:=jZ (fun W hW=>ju ⟨D,P,n⟩ W hs hW)
 have HG:=jZ (fun W=>fy e W oM oM)
 have b1:=((bZ w (.cells #[xh D,xh P,O U n] 27)).alloc sP (.cells #[xh e.c,xh e.r] 62)).alloc (by simp; omega) (.cells #[xh ⟨#[]⟩,xh ⟨#[]⟩,O U 0] 27)
 have L1:=((ai.new w 27 #[xh D,xh P,O U n]).alloc (.cells #[xh e.c,xh e.r] 62)).alloc (.cells #[xh ⟨#[]⟩,xh ⟨#[]⟩,O U 0] 27)
 have E1:=(ai.new (w.alloc (.cells #[xh D,xh P,O U n] 27)) 62 #[xh e.c,xh e.r]).alloc (.cells #[xh ⟨#[]⟩,xh ⟨#[]⟩,O U 0] 27)
 have N1:=ai.new ((w.alloc (.cells #[xh D,xh P,O U n] 27)).alloc (.cells #[xh e.c,xh e.r] 62)) 27 #[xh ⟨#[]⟩,xh ⟨#[]⟩,O U 0]
 have zX:(w.alloc (.cells #[xh D,xh P,O U n] 27)).heap.size=w.heap.size+1:=sP
 have ym:((w.alloc (.cells #[xh D,xh P,O U n] 27)).alloc (.cells #[xh e.c,xh e.r] 62)).heap.size=w.heap.size+2:=sP
 rw [zX] at E1
 rw [ym] at N1
 have yG:=ht.then b1
 clear zX ym
 go_enter Tryz.func53,Tryz.ntmps53
 go_wp2_with fail
 generalize ((w.alloc (.cells #[xh D,xh P,O U n] 27)).alloc (.cells #[xh e.c,xh e.r] 62)).alloc (.cells #[xh ⟨#[]⟩,xh ⟨#[]⟩,O U 0] 27)=W at yG b1 L1 E1 N1 ⊢
 generalize hg:w.heap.size=g at L1 E1 N1 ⊢
 refine (HS.out _ yG).mono ?_
 rintro en w2 ⟨rfl,xn⟩
 have L2:=L1.below xn L1.lt
 have E2:=E1.below xn E1.lt
 have N2:=N1.below xn N1.lt
 have c20:=L2.cell 0
 have c21:=L2.cell 1
 have c22:=L2.cell 2
 have e20:=E2.cell 0
 have e21:=E2.cell 1
 have n20:=N2.cell 0
 have n21:=N2.cell 1
 have n22:=N2.cell 2
 obtain ⟨f20,f21,f22⟩:=frz3 N2
 have yZ:=L2.lt
 have Er:=E2.lt
 have Cs:=N2.lt
 simp only [gz0,gz1] at c20 c21 c22 e20 e21 n20 n21 n22
 have Dz:Below w.heap.size w w2:=by rw [← hg] at *; exact av b1 xn
 cases xq:Lg.ok ⟨D,P,n⟩
 ·have HK:=jZ (zB.out (by rw [xq]; rfl))
  clear xq Cd By L1 E1 N1 L2 E2 N2
  go_wp2_with fail
  refine bodyPost_ret (v:=.tuple #[.agg #[xh D,xh P,O U n],O U 1]) (by simp [results,Tryz.results53,go_sem, *]) rfl ⟨by rw [HK.out.1,HK.out.2], ?_⟩
  refine Dz.trans ?_
  repeat (first | exact Below.refl _ _ | refine Below.alloc ?_ (by simp; omega) _ | refine Below.setCell ?_ (by simp; omega) _)
 ·have FC:=Cd.1 xq
  clear Cd
  obtain ⟨k,hk⟩ : ∃ k:Nat,n=(k:Int):=⟨_,FC.2.2.symm⟩
  have hk60:k≤60:=by have:=FC.2.2; omega
  clear By FC
  subst hk
  go_wp2_with fail
  refine (HG.out _).mono ?_
  rintro en w3 ⟨rfl,xB⟩
  clear c20 c21 c22 e20 e21 n20 n21 n22 f20 f21 f22 yZ Er Cs
  have L3:=L2.below xB L2.lt
  have E3:=E2.below xB E2.lt
  have N3:=N2.below xB N2.lt
  have c30:=L3.cell 0
  have c31:=L3.cell 1
  have c32:=L3.cell 2
  have e30:=E3.cell 0
  have e31:=E3.cell 1
  have n30:=N3.cell 0
  have n31:=N3.cell 1
  have n32:=N3.cell 2
  obtain ⟨f30,f31,f32⟩:=frz3 N3
  have Hq:=L3.lt
  have he3:=E3.lt
  have Jc:=N3.lt
  simp only [gz0,gz1] at c30 c31 c32 e30 e31 n30 n31 n32
  have Ce:Below w.heap.size w w3:=av Dz xB
  clear L1 E1 N1 L2 E2 N2
  cases Bh:e.ok
  ·have HK:=jZ (zB.out (by rw [xq,Bh]; rfl))
   clear xq Bh L3 E3 N3
   go_wp2_with fail
   refine bodyPost_ret (v:=.tuple #[.agg #[xh D,xh P,O U (k:Int)],O U 1]) (by simp [results,Tryz.results53,go_sem, *]) rfl ⟨by rw [HK.out.1,HK.out.2], ?_⟩
   refine Ce.trans ?_
   repeat (first | exact Below.refl _ _ | refine Below.alloc ?_ (by simp; omega) _ | refine Below.setCell ?_ (by simp; omega) _)
  ·by_cases hfull:k=60
   ·have HK:=jZ (yS.out (by rw [xq,Bh]; rfl) (by simp [hfull]))
    have d1:((k:Int) == 60)=true:=by rw [hfull]; rfl
    clear xq Bh L3 E3 N3 hfull
    go_wp2_with fail
    refine bodyPost_ret (v:=.tuple #[.agg #[xh D,xh P,O U (k:Int)],O U 2]) (by simp [results,Tryz.results53,go_sem, *]) rfl ⟨by rw [HK.out.1,HK.out.2], ?_⟩
    refine Ce.trans ?_
    repeat (first | exact Below.refl _ _ | refine Below.alloc ?_ (by simp; omega) _ | refine Below.setCell ?_ (by simp; omega) _)
   ·have HK:=jZ (zD.out (by rw [xq,Bh]; rfl) (by simp; omega))
    have d1:((k:Int) == 60)=false:=by simp; omega
    obtain ⟨ln,Bv⟩ : ∃ ln:ByteArray,ln=⟨(bT k (bl e.c) (bl e.r)).toArray⟩:=⟨_,rfl⟩
    have Ni:ln.size≤100000000:=by rw [Bv,← ao,bO]; have:=jr (k:=k) (c:=bl e.c) (r:=bl e.r) Bh oM; omega
    have BH:Hid (∀ W,jj W→Calls xi 100 #[O U (k:Int),e.val] W fun en w'=>en=.returned (xh ln)∧Below W.heap.size W w'):=fun W hW=>by
     rw [Bv]; exact mv k e W oM Bh hW
    have EZ:Hid (cm ⟨D,P,(k:Int)⟩ e=⟨D,P++ln,(k:Int)+1⟩∧dY ⟨D,P,(k:Int)⟩ e=0):=by
     have h:=HK.out
     rw [Int.toNat_natCast,← Bv] at h; exact h
    clear HK xq Bh Bv hfull zB yS zD
    go_wp2_with fail
    have AL:w.heap.size≤g:=oM
    refine fx (fun W9=>ai W9 g 27 [xh D,xh P,O U (k:Int)]∧ai W9 (g+1) 62 [xh e.c,xh e.r]∧ai W9 (g+1+1) 27 [xh ⟨#[]⟩,xh ⟨#[]⟩,O U 0]∧Below w.heap.size w W9) (fun _ _=>True) kZ kZ kZ kZ ⟨L3.below jB.drew L3.lt,E3.below jB.drew E3.lt,N3.below jB.drew N3.lt,Ce.drew⟩ ?_
    simp only [ax,Act.put,sA,gs0,gs1,Nat.zero_add,Nat.reduceAdd]
    clear L3 E3 N3 c30 c31 c32 e30 e31 n30 n31 n32 f30 f31 f32 Hq he3 Jc
    refine aG (.pointer (some ⟨g,1,none⟩)) (fun vs w9 xj hB K9 xk=>?_) ?_
    ·go_simp
     exact xk _ _ rfl xj trivial
    refine aG (xh P) (fun vs w9 xj hB K9 xk=>?_) ?_
    ·have Bb:=hB 0 _ kZ rfl
     simp only [Bb] at xk ⊢
     have q1:w9.cell? ⟨g,1,none⟩=some (xh P):=xj.1.cell 1
     go_simp
     exact xk _ _ rfl xj trivial
    refine aG (.pointer (some ⟨g,2,none⟩)) (fun vs w9 xj hB K9 xk=>?_) ?_
    ·go_simp
     exact xk _ _ rfl xj trivial
    refine aG (O U (k:Int)) (fun vs w9 xj hB K9 xk=>?_) ?_
    ·have AH:=hB 2 _ kZ rfl
     simp only [AH] at xk ⊢
     have q1:w9.cell? ⟨g,2,none⟩=some (O U (k:Int)):=xj.1.cell 2
     go_simp
     exact xk _ _ rfl xj trivial
    refine aG (.agg #[xh e.c,xh e.r]) (fun vs w9 xj hB K9 xk=>?_) ?_
    ·have q0:w9.cell? ⟨g+1,0,none⟩=some (xh e.c):=xj.2.1.cell 0
     have q1:w9.cell? ⟨g+1,1,none⟩=some (xh e.r):=xj.2.1.cell 1
     go_simp
     exact xk _ _ rfl xj trivial
    refine aG (xh ln) (fun vs w9 xj hB K9 xk=>?_) ?_
    ·have yB:=hB 3 _ kZ rfl
     have Fs:=hB 4 _ kZ rfl
     simp only [yB,Fs] at xk ⊢
     go_simp
     refine (BH.out _ (ht.then xj.2.2.2)).mono ?_
     rintro en w8 ⟨rfl,xm⟩
     exact xk _ _ rfl ⟨xj.1.below xm xj.1.lt,xj.2.1.below xm xj.2.1.lt,xj.2.2.1.below xm xj.2.2.1.lt,xj.2.2.2.trans (xm.mono xj.2.2.2.size)⟩ trivial
    refine aG (xh (P++ln)) (fun vs w9 xj hB K9 xk=>?_) ?_
    ·have AG:=hB 1 _ kZ rfl
     have Ft:=hB 5 _ kZ rfl
     simp only [AG,Ft] at xk ⊢
     go_simp
     (first | (rw [if_neg oM]; go_simp) | skip)
     exact xk _ _ rfl xj trivial
    refine aG (.pointer (some ⟨g,1,none⟩)) (fun vs w9 xj hB K9 xk=>?_) ?_
    ·go_simp
     exact xk _ _ rfl xj trivial
    refine gM (fun vs w9 xj hB K9 xk=>?_)
    have Fv:=hB 6 _ rfl
    have Fu:=hB 7 _ rfl
    simp only [Fv,Fu] at xk ⊢
    obtain ⟨L9,E9,N9,B9⟩:=xj
    have c91:=L9.cell 1
    have f91:=L9.frozen 1
    simp only [gz0,gz1] at c91
    go_simp
    refine xk _ _ ?_
    have L4:=L9.set 1 (xh (P++ln))
    have E4:=E9.other (p:=⟨g,1,none⟩) sP (xh (P++ln))
    have N4:=N9.other (p:=⟨g,1,none⟩) (by simp; omega) (xh (P++ln))
    have B4:=B9.setCell (p:=⟨g,1,none⟩) AL (xh (P++ln))
    generalize w9.setCell ⟨g,1,none⟩ (xh (P++ln))=w4 at L4 E4 N4 B4 ⊢
    simp only [List.set_cons_zero,List.set_cons_succ] at L4
    have ff2:=L4.frozen 2
    clear c91 f91 L9 E9 N9 B9 hB xk
    have c40:=L4.cell 0
    have c41:=L4.cell 1
    have c42:=L4.cell 2
    have e40:=E4.cell 0
    have e41:=E4.cell 1
    have n40:=N4.cell 0
    have n41:=N4.cell 1
    have n42:=N4.cell 2
    obtain ⟨f40,f41,f42⟩:=frz3 N4
    have Nj:=L4.lt
    have Nk:=E4.lt
    have Nl:=N4.lt
    simp only [gz0,gz1] at c40 c41 c42 e40 e41 n40 n41 n42
    have Kr:(P++ln).size=P.size+ln.size:=bg _ _
    clear L4 E4 N4
    go_wp2_with fail
    refine bodyPost_ret (v:=.tuple #[.agg #[xh D,xh (P++ln),O U ((k:Int)+1)],O U 0]) (by simp [results,Tryz.results53,go_sem, *]) rfl ⟨by rw [EZ.out.1,EZ.out.2], ?_⟩
    refine B4.trans ?_
    repeat (first | exact Below.refl _ _ | refine Below.alloc ?_ (by simp; omega) _ | refine Below.setCell ?_ (by simp; omega) _)
noncomputable def iG (l:Lg):Lg:=if l.ok then ⟨l.D++l.P,⟨#[]⟩,l.n⟩ else ⟨⟨#[]⟩,⟨#[]⟩,0⟩
set_option maxRecDepth 100000 in
theorem qu (l:Lg) (w:World) (hs:l.D.size+l.P.size≤2000000) :
  Calls xi 191 #[l.val] w fun e w'=>e=.returned (.tuple #[(iG l).val,.bool l.ok])∧Below w.heap.size w w':=by
 have b1:=(bZ w (.cells #[xh l.D,xh l.P,O U l.n] 27)).alloc sP (.cells #[xh ⟨#[]⟩,xh ⟨#[]⟩,O U 0] 27)
 have L1:=(ai.new w 27 #[xh l.D,xh l.P,O U l.n]).alloc (.cells #[xh ⟨#[]⟩,xh ⟨#[]⟩,O U 0] 27)
 have N1:=ai.new (w.alloc (.cells #[xh l.D,xh l.P,O U l.n] 27)) 27 #[xh ⟨#[]⟩,xh ⟨#[]⟩,O U 0]
 have hz:(l.D++l.P).size=l.D.size+l.P.size:=bg _ _
 have Jd:Hid (iG l=if l.ok then ⟨l.D++l.P,⟨#[]⟩,l.n⟩ else ⟨⟨#[]⟩,⟨#[]⟩,0⟩):=rfl
 go_enter Tryz.func191,Tryz.ntmps191
 go_wp2_with fail
 have yF:(w.alloc (.cells #[xh l.D,xh l.P,O U l.n] 27)).heap.size=w.heap.size+1:=sP
 generalize (w.alloc (.cells #[xh l.D,xh l.P,O U l.n] 27)).alloc (.cells #[xh ⟨#[]⟩,xh ⟨#[]⟩,O U 0] 27)=W at  b1 L1 N1 ⊢
 rw [yF] at N1
 generalize hg:w.heap.size=g at L1 N1 ⊢
 refine (iD l _ hs).mono ?_
 rintro e w2 ⟨rfl,xn⟩
 have L2:=L1.below xn L1.lt
 have N2:=N1.below xn N1.lt
 have c0:=L2.cell 0
 have c1:=L2.cell 1
 have c2:=L2.cell 2
 have n0:=N2.cell 0
 have n1:=N2.cell 1
 have n2:=N2.cell 2
 obtain ⟨f0,f1,f2⟩:=frz3 N2
 have AB:=L2.lt
 have Je:=N2.lt
 simp only [gz0,gz1] at c0 c1 c2 n0 n1 n2
 have yp:Below w.heap.size w w2:=by rw [← hg] at *; exact av b1 xn
 clear L1 L2 N1 N2
 cases xq:l.ok
 ·have HV:Hid (iG l=⟨⟨#[]⟩,⟨#[]⟩,0⟩):=by rw [Jd.out,xq]; rfl
  have HK:=jZ xq
  clear xq Jd
  go_wp2_with fail
  refine bodyPost_ret (v:=.tuple #[.agg #[xh ⟨#[]⟩,xh ⟨#[]⟩,O U 0],.bool false]) (by simp [results,Tryz.results191,go_sem, *]) rfl ⟨by rw [HK.out,HV.out], ?_⟩
  refine yp.trans ?_
  repeat (first | exact Below.refl _ _ | refine Below.setCell ?_ (by simp; omega) _)
 ·have HV:Hid (iG l=⟨l.D++l.P,⟨#[]⟩,l.n⟩):=by rw [Jd.out,xq]; rfl
  have HK:=jZ xq
  clear xq Jd
  go_wp2_with fail
  refine bodyPost_ret (v:=.tuple #[.agg #[xh (l.D++l.P),xh ⟨#[]⟩,O U l.n],.bool true]) (by simp [results,Tryz.results191,go_sem, *]) rfl ⟨by rw [HK.out,HV.out], ?_⟩
  refine yp.trans ?_
  repeat (first | exact Below.refl _ _ | refine Below.setCell ?_ (by simp; omega) _)
def oA (k:Nat) (l:Lg):Prop:=l.D.size+l.P.size≤410 * k∧0≤l.n∧l.n≤60
theorem oA.zero:oA 0 ⟨⟨#[]⟩,⟨#[]⟩,0⟩:=⟨dD,dD,dD⟩
theorem oA.mono {k k' : Nat} {l:Lg} (h:oA k l) (hk:k≤k'):oA k' l:=⟨by have:=h.1; omega,h.2⟩
theorem oA.app {k:Nat} {l:Lg} (h:oA k l) (e:dj):oA (k+1) (cm l e):=by
 obtain ⟨h1,h2,h3⟩:=h
 cases xq:(l.ok && e.ok) with
 | false=>rw [(iF xq).1]; exact ⟨oM,h2,h3⟩
 | true =>
  by_cases hn:l.n=60
  ·rw [(fP xq hn).1]; exact ⟨oM,h2,h3⟩
  ·rw [(fV xq hn).1]
   rw [Bool.and_eq_true] at xq
   have hl:=jr (k:=l.n.toNat) (show eX (bl e.c) (bl e.r)=true from xq.2) oM
   refine ⟨?_,by simp only; omega,by simp only; omega⟩
   simp only [bg]
   have:(⟨(bT l.n.toNat (bl e.c) (bl e.r)).toArray⟩ : ByteArray).size=(bT l.n.toNat (bl e.c) (bl e.r)).length:=by simp [ByteArray.size]
   omega
theorem oA.sync {k:Nat} {l:Lg} (h:oA k l):oA k (iG l):=by
 unfold iG
 split
 ·refine ⟨?_,h.2⟩
  simp only [bg]
  have h0:(⟨#[]⟩ : ByteArray).size=0:=rfl
  have:=h.1; omega
 ·exact oA.zero.mono (Nat.zero_le _)
theorem kK {W:World} {g:Nat} {a b c:Value} (h:ai W g 27 [a,b,c]) (x y z:Value):ai (((W.setCell ⟨g,0,none⟩ x).setCell ⟨g,1,none⟩ y).setCell ⟨g,2,none⟩ z) g 27 [x,y,z]:=by
 have:=((h.set 0 x).set 1 y).set 2 z
 simpa using this
theorem dx (W:World) (g:Nat) (x y z:Value):W.grownBy (((W.setCell ⟨g,0,none⟩ x).setCell ⟨g,1,none⟩ y).setCell ⟨g,2,none⟩ z) (some g):=ab (ab (ab (World.grownBy.refl W (some g))))
structure sH (w W wx:World) (g:Nat) (A:Option Addr) (bs:List UInt8) (cap m gl k:Nat) (l:Lg):Prop where
 env:fb w wx g A bs cap m
 lies:ai wx gl 27 [xh l.D,xh l.P,O U l.n]
 gr:W.grownBy wx (some g)
 sz:oA k l
section
variable {w W wx wy:World} {g:Nat} {A:Option Addr} {bs:List UInt8} {cap m m' gl k k' : Nat} {l l' : Lg}
theorem sH.mono (h:sH w W wx g A bs cap m gl k l) (hm:m≤m') (hk:k≤k'):sH w W wx g A bs cap m' gl k' l:=⟨h.env.mono hm,h.lies,h.gr,h.sz.mono hk⟩
theorem sH.next (h:sH w W wx g A bs cap m gl k l) (E:fb w wy g A bs cap m') (hg:wx.grownBy wy (some g)) (hB:gl ≠ g):sH w W wy g A bs cap m' gl k l:=⟨E,h.lies.kept hg (by intro e; injection e with e; exact hB e),aA h.gr hg,h.sz⟩
theorem sH.below (h:sH w W wx g A bs cap m gl k l) (hb:Below wx.heap.size wx wy):sH w W wy g A bs cap m gl k l:=⟨h.env.below hb,h.lies.below hb h.lies.lt,aA h.gr (bJ hb _),h.sz⟩
theorem sH.store (h:sH w W wx g A bs cap m gl k l) (hg:g < gl) (hw:w.heap.size≤gl) (hW:W.heap.size≤gl) (hs:oA k' l') :
  sH w W (((wx.setCell ⟨gl,0,none⟩ (xh l'.D)).setCell ⟨gl,1,none⟩ (xh l'.P)).setCell ⟨gl,2,none⟩ (O U l'.n)) g A bs cap m gl k' l' :=
 ⟨h.env.wrote (dx _ _ _ _ _) hw hg,kK h.lies _ _ _,bf h.gr (dx _ _ _ _ _) hW,hs⟩
end
set_option maxRecDepth 100000 in
theorem wn (g:Nat) (A:Option Addr) (bs:List UInt8) (cap m:Nat) (w W:World) (hm:m≤700000000) (E0:fb w W g A bs cap m) :
  Calls xi 163 #[.pointer (some ⟨g,0,none⟩)] W fun e w'=>∃ l:Lg,e=.returned l.val∧oA 6 l∧fb w w' g A bs cap (m+1000)∧W.grownBy w' (some g):=by
 have hgW:=E0.lt
 have hwW:=E0.gr.size
 go_enter Tryz.func163,Tryz.ntmps163
 go_wp2_with fail
 have E1:=(E0.alloc (.cells #[xh ⟨#[]⟩,xh ⟨#[]⟩,O U 0] 27)).alloc (.cells #[xh ⟨#[]⟩,xh ⟨#[]⟩,O U 0] 27)
 have L4:=(ai.new W 27 #[xh ⟨#[]⟩,xh ⟨#[]⟩,O U 0]).alloc (.cells #[xh ⟨#[]⟩,xh ⟨#[]⟩,O U 0] 27)
 have L5:=ai.newB W (.cells #[xh ⟨#[]⟩,xh ⟨#[]⟩,O U 0] 27) 27 #[xh ⟨#[]⟩,xh ⟨#[]⟩,O U 0]
 have G1:=aA (World.grownBy_alloc W (.cells #[xh ⟨#[]⟩,xh ⟨#[]⟩,O U 0] 27) (some g)) (World.grownBy_alloc _ (.cells #[xh ⟨#[]⟩,xh ⟨#[]⟩,O U 0] 27) (some g))
 generalize (W.alloc (.cells #[xh ⟨#[]⟩,xh ⟨#[]⟩,O U 0] 27)).alloc (.cells #[xh ⟨#[]⟩,xh ⟨#[]⟩,O U 0] 27)=W1 at E1 L4 L5 G1 ⊢
 obtain ⟨g4,yb⟩ : ∃ g4,W.heap.size=g4:=⟨_,rfl⟩
 have h4:g < g4∧w.heap.size≤g4:=oM
 rw [yb] at L4 L5
 rw [yb]
 have yx:W.heap.size≤g4:=oM
 clear yb hgW hwW
 refine (dp E1 7 oM oM).mono ?_
 rintro e W3 ⟨n,rfl,hn,E3,gr⟩
 replace L4:=L4.kept gr iE
 have St:sH w W W3 g A bs cap (m+10+100 * (6 - n)) (g4+1) (6 - n) ⟨⟨#[]⟩,⟨#[]⟩,0⟩:=⟨E3.mono oM,L5.kept gr iE,aA G1 gr,oA.zero.mono (Nat.zero_le _)⟩
 have HS:=jZ St
 have DY:=jZ L4
 clear St E3 gr L4 L5 G1 E1 E0
 go_wp2_with fail
 go_loopw [4] (fun i wr=>∃ (k:Nat) (l:Lg),k≤6∧i=O U k∧Hid (sH w W wr g A bs cap (m+10+100 * (6 - k)) (g4+1) (6 - k) l)∧Hid (ai wr g4 27 [xh ⟨#[]⟩,xh ⟨#[]⟩,O U 0])) (fun i _=>(intOf i).toNat)
 case atStart=>exact ⟨n,_,oM,rfl,HS,DY⟩
 case round =>
  clear HS DY hn
  obtain ⟨k,l,hk,rfl,HS,DY⟩:=hrel
  by_cases xu:0 < k
  ·obtain ⟨k,rfl⟩ : ∃ q,k=q+1:=⟨k - 1,oM⟩
   clear xu
   have y7:(0:Int) < ((k+1:Nat):Int):=oM
   have K5:=HS.out.lies
   have E5:=HS.out.env
   have EN:=jZ HS.out.sz
   have Ac:Hid (∀ p ∈ [bp.lies 7 (g4+1) 27 [xh l.D,xh l.P,O U l.n]],p.blk ≠ some g∧p.P wr):=by
    intro p hp
    simp only [mC,mN,oF] at hp
    subst hp
    exact ⟨by intro e; injection e; omega,K5⟩
   go_upto_region 5 with fail
   refine al (Dr w wr g A bs cap (m+10+100 * (6 - (k+1))) 8 8 [g,g4+1] [bp.lies 7 (g4+1) 27 [xh l.D,xh l.P,O U l.n]]) (fun i w1 w2=>i ∉ [7]→w1.grownBy w2 (some g)) kZ kZ kZ (Dr.start E5 Ac.out) ?_
   simp only [ax,Act.put,sA,gs0,gs1,Nat.zero_add,Nat.reduceAdd]
   apply aa
   case h1 =>
    intro vs L9 w9 xl xj hB K9 xk
    have q0:w9.cell? ⟨g4+1,0,none⟩=some (xh l.D):=((xj.room (bp.lies 7 (g4+1) 27 [xh l.D,xh l.P,O U l.n]) sP).2 (xl.open_ 7 kZ)).cell 0
    have q1:w9.cell? ⟨g4+1,1,none⟩=some (xh l.P):=((xj.room (bp.lies 7 (g4+1) 27 [xh l.D,xh l.P,O U l.n]) sP).2 (xl.open_ 7 kZ)).cell 1
    have q2:w9.cell? ⟨g4+1,2,none⟩=some (O U l.n):=((xj.room (bp.lies 7 (g4+1) 27 [xh l.D,xh l.P,O U l.n]) sP).2 (xl.open_ 7 kZ)).cell 2
    simp only [Act.put,sA,gs0,gs1] at xk
    go_simp
    exact xk _ _ rfl (dS xl xj) gR
   refine aa _ vd0 ?_
   refine sm0 [] (fun v _=>∃ r:dj,v=r.val∧(r.c.size≤20∧r.r.size≤20)) (fun vs L9 w9 xl xj hB K9 xk=>?_) ?_
   next =>
    have d1:=fe hB 1
    simp only [d1] at xk ⊢
    simp only [Act.put,sA,gs0,gs1] at xk
    go_simp
    refine (lg g A bs cap _ w w9 (by have:=xj.cnt; omega) xj.env).mono ?_
    rintro en w8 ⟨r8,rfl,Ks,yN,xP⟩
    exact xk _ _ _ rfl ⟨r8,rfl,Ks⟩ (dC xl xj yN xP) (fun _=>xP)
   refine sm0 [] (fun v _=>∃ (l2:Lg) (c:Int),v=.tuple #[l2.val,O U c]∧oA (6 - k) l2) (fun vs L9 w9 xl xj hB K9 xk=>?_) ?_
   next =>
    have d0:=fe hB 0
    simp only [d0] at xk ⊢
    simp only [Act.put,sA,gs0,gs1] at xk
    obtain ⟨r2,e2,er2⟩:=fs hB 2
    simp only [e2] at xk ⊢
    have Ku:oA (6 - k) (cm l r2):=(EN.out.app r2).mono oM
    have GR:=EN.out.1
    go_simp
    refine (gu l r2 w9 oM oM oM).mono ?_
    rintro en w8 ⟨rfl,xm⟩
    exact xk _ _ _ rfl ⟨cm l r2,_,rfl,Ku⟩ (xj.below xl.self dD xm) (fun _=>bJ xm _)
   refine sm0 [] (fun v _=>∃ (l2:Lg) (c:Int),v=.tuple #[l2.val,O U c]∧oA (6 - k) l2) (fun vs L9 w9 xl xj hB K9 xk=>?_) ?_
   next =>
    simp only [Act.put,sA,gs0,gs1] at xk
    obtain ⟨l3,c3,e3,el3⟩:=fs hB 3
    simp only [e3] at xk ⊢
    go_simp
    exact xk _ _ _ rfl ⟨l3,c3,rfl,el3⟩ (dS xl xj) gR
   refine sm0 [] (fun v _=>∃ l2:Lg,v=l2.val∧oA (6 - k) l2) (fun vs L9 w9 xl xj hB K9 xk=>?_) ?_
   next =>
    simp only [Act.put,sA,gs0,gs1] at xk
    obtain ⟨l4,c4,e4,el4⟩:=fs hB 4
    simp only [e4] at xk ⊢
    go_simp
    exact xk _ _ _ rfl ⟨l4,rfl,el4⟩ (dS xl xj) gR
   refine sm0 [] (fun v _=>∃ z:Int,v=O U z) (fun vs L9 w9 xl xj hB K9 xk=>?_) ?_
   next =>
    simp only [Act.put,sA,gs0,gs1] at xk
    obtain ⟨l4,c4,e4,el4⟩:=fs hB 4
    simp only [e4] at xk ⊢
    go_simp
    exact xk _ _ _ rfl ⟨c4,rfl⟩ (dS xl xj) gR
   refine sm [] (fun _ w9=>∃ l2:Lg,oA (6 - k) l2∧ai w9 (g4+1) 27 [xh l2.D,xh l2.P,O U l2.n]) (fun vs L9 w9 xl xj hB K9 xk=>?_) ?_
   next =>
    simp only [Act.put] at xk
    obtain ⟨l5,e5,el5⟩:=fs hB 5
    simp only [e5] at xk ⊢
    have xv:ai w9 (g4+1) 27 [xh l.D,xh l.P,O U l.n]:=(xj.room (bp.lies 7 (g4+1) 27 [xh l.D,xh l.P,O U l.n]) sP).2 xl.self
    obtain ⟨y0,y1,y2⟩:=cells3 xv
    obtain ⟨f0,f1,f2⟩:=frz3 xv
    have xD:ai _ (g4+1) 27 [xh l5.D,xh l5.P,O U l5.n]:=(((xv.set 0 (xh l5.D)).set 1 (xh l5.P)).set 2 (O U l5.n))
    have yO:=jZ (gw3 w9 (g4+1) (xh l5.D) (xh l5.P) (O U l5.n))
    have xO:=jZ xD
    clear xD xv
    go_simp
    exact xk _ undef _ rfl ⟨l5,el5,xO.out⟩ (xj.wrote xl.self dD yO.out (fun b e=>by injection e with e; subst e; exact ⟨oM,oM,.inl sP⟩) (by intro p hp e; simp only [mC,mN,oF] at hp; first | (subst hp; exact .inl rfl) | (rcases hp with rfl | rfl <;> first | exact .inl rfl | exact absurd (Option.some.inj e) oM))) nq
   refine au fun vs Lq W5 xv yu hB=>?_
   obtain ⟨l5,q5,EP⟩:=hB 7 _ rfl rfl dD
   clear hB xv
   have EP:ai W5 (g4+1) 27 [xh l5.D,xh l5.P,O U l5.n]:=EP
   have L44:=yu.lies DY.out (by simp only [mC,mN,oF]; omega)
   have G5:=dK HS.out.gr yu (by intro k hk xw; simp only [mC,mN,oF] at hk; omega) E5
   have St5:sH w W W5 g A bs cap (m+10+100 * (6 - (k+1))+8 * 8) (g4+1) (6 - k) l5:=⟨yu.le,EP,G5,q5⟩
   clear yu EP G5 q5 E5 K5 Ac EN HS DY
   go_wp2_with fail
   refine (jC St5.env 4 oM oM).mono ?_
   rintro e W6 ⟨q,rfl,E6,gr⟩
   have St6:=St5.next E6 gr oM
   replace L44:=L44.kept gr iE
   clear gr E6 St5
   cases q
   ·have HS:=jZ (St6.mono (show _≤m+10+100 * (6 - k) by omega) nR)
    have DY:=jZ L44
    clear St6 L44
    go_wp2_with fail
    go_roundw
    case rel=>exact ⟨k,l5,oM,by go_num,HS,DY⟩
    case measure=>simp [intOf] <;> omega
   ·have K5:=St6.lies
    obtain ⟨k0,k1,k2⟩:=cells3 K5
    clear K5
    go_wp2_with fail
    refine (qu l5 W6 (by have:=St6.sz.1; omega)).mono ?_
    rintro e W7 ⟨rfl,yX⟩
    have hs6:=St6.sz.sync
    have St7:=St6.below yX
    replace L44:=L44.below yX L44.lt
    clear St6 yX k0 k1 k2
    generalize iG l5=l6 at hs6 ⊢
    have K5:=St7.lies
    obtain ⟨k0,k1,k2⟩:=cells3 K5
    obtain ⟨f0,f1,f2⟩:=frz3 K5
    have HS:=jZ ((St7.store (l':=l6) oM oM oM hs6).mono (show _≤m+10+100 * (6 - k) by omega) nR)
    have DY:=jZ (((L44.other (p:=⟨g4+1,0,none⟩) sP (xh l6.D)).other (p:=⟨g4+1,1,none⟩) sP (xh l6.P)).other (p:=⟨g4+1,2,none⟩) sP (O U l6.n))
    clear St7 K5 L44 hs6
    go_wp2_with fail
    go_roundw
    case rel=>exact ⟨k,l6,oM,by go_num,HS,DY⟩
    case measure=>simp [intOf] <;> omega
  ·obtain rfl:k=0:=oM
   clear xu
   have y7 : ¬ (0:Int) < ((0:Nat):Int):=oM
   have L5:=HS.out.lies
   have L4:=DY.out
   obtain ⟨d0,d1,d2⟩:=cells3 L5
   obtain ⟨e0,e1,e2⟩:=cells3 L4
   obtain ⟨f0,f1,f2⟩:=frz3 L4
   have n45:g4 ≠ g4+1:=oM
   have Ar:=jZ (HS.out.mono (show _≤m+1000 by omega) (show 6 - 0≤6 by omega))
   clear HS
   have HH:=jZ h4
   have Nm:=jZ yx
   clear h4 yx
   go_wp2_with fail
   refine bodyPost_ret (v:=l.val) (by simp [results,Tryz.results163,go_sem, *]) rfl ⟨l,rfl,Ar.out.sz, ?_, ?_⟩
   ·exact Ar.out.env.wrote (dx _ g4 _ _ _) HH.out.2 HH.out.1
   ·exact bf Ar.out.gr (dx _ g4 _ _ _) Nm.out
def wQ (l:Lg):Prop:=l.D.size+l.P.size≤30000∧-10≤l.n∧l.n≤1000
set_option maxRecDepth 100000 in
theorem sI (g:Nat) (A:Option Addr) (bs:List UInt8) (cap m:Nat) (w W:World) (hm:m≤600000000) (E0:fb w W g A bs cap m) :
  Calls xi 109 #[.pointer (some ⟨g,0,none⟩)] W fun e w'=>∃ l:Lg,e=.returned l.val∧(wQ l∧l.P.size≤5000)∧fb w w' g A bs cap (m+2000)∧W.grownBy w' (some g):=by
 have hgW:=E0.lt
 have hwW:=E0.gr.size
 go_enter Tryz.func109,Tryz.ntmps109
 go_wp2_with fail
 have E1:=E0.alloc (.cells #[xh ⟨#[]⟩,xh ⟨#[]⟩,O U 0] 27)
 have L4:=ai.new W 27 #[xh ⟨#[]⟩,xh ⟨#[]⟩,O U 0]
 have G1:=World.grownBy_alloc W (.cells #[xh ⟨#[]⟩,xh ⟨#[]⟩,O U 0] 27) (some g)
 generalize W.alloc (.cells #[xh ⟨#[]⟩,xh ⟨#[]⟩,O U 0] 27)=W1 at E1 L4 G1 ⊢
 have HG:=jZ G1
 obtain ⟨g4,yb⟩ : ∃ g4,W.heap.size=g4:=⟨_,rfl⟩
 have h4:g < g4∧w.heap.size≤g4:=oM
 rw [yb] at L4
 rw [yb]
 have HQ:=jZ yb
 clear yb hgW hwW E0 G1
 refine (wn g A bs cap m w W1 oM E1).mono ?_
 rintro e W2 ⟨l,rfl,hs,E2,gr⟩
 replace L4:=L4.kept gr iE
 replace HG:=jZ (aA HG.out gr)
 clear gr E1
 go_wp2_with fail
 have E3:=E2.alloc (.cells #[xh l.D,xh l.P,O U l.n] 27)
 have L5:=ai.new W2 27 #[xh l.D,xh l.P,O U l.n]
 have h45:=L4.lt
 replace L4:=L4.alloc (.cells #[xh l.D,xh l.P,O U l.n] 27)
 replace HG:=jZ (aA HG.out (World.grownBy_alloc W2 (.cells #[xh l.D,xh l.P,O U l.n] 27) (some g)))
 generalize W2.alloc (.cells #[xh l.D,xh l.P,O U l.n] 27)=W3 at E3 L5 L4 HG ⊢
 generalize W2.heap.size=g5 at L5 h45 ⊢
 refine (dp E3 24 oM oM).mono ?_
 rintro e W7 ⟨x,rfl,hx,E7,gr⟩
 replace L4:=L4.kept gr iE
 replace L5:=L5.kept gr iE
 replace HG:=jZ (aA HG.out gr)
 have Cc:w.heap.size≤g5:=oM
 obtain ⟨FZ,Gj,Cz⟩:=hs
 clear gr E3 E2
 have hc:x=0 ∨ x=1 ∨ x=2 ∨ 3≤x:=oM
 clear hx
 rcases hc with rfl | rfl | rfl | h5
 ·have Bm:IntKind.i64.wrap (l.n+1)=l.n+1:=IntWalk.i64_in _ oM
  have HE:=jZ E7
  clear E7
  obtain ⟨d0,d1,d2⟩:=cells3 L5
  obtain ⟨e0,e1,e2⟩:=cells3 L4
  obtain ⟨f0,f1,f2⟩:=frz3 L4
  obtain ⟨p0,p1,p2⟩:=frz3 L5
  have HL:=jZ (And.intro h4 (And.intro h45 Cc))
  have HZ:Hid ((wQ (⟨l.D,l.P,l.n+1⟩ : Lg)∧(⟨l.D,l.P,l.n+1⟩ : Lg).P.size≤5000)):=⟨⟨by simp only; omega,by simp only; omega,by simp only; omega⟩,by simp only; omega⟩
  clear h4 Cc FZ Gj Cz
  go_upto_region 9 with fail
  repeat (first | go_values | go_skip | go_guarded | go_step | go_upon | simp only [])
  refine bodyPost_ret (v:=(⟨l.D,l.P,l.n+1⟩ : Lg).val) (by simp [results,Tryz.results109,go_sem, *]) rfl ⟨⟨l.D,l.P,l.n+1⟩,rfl,HZ.out, ?_, ?_⟩
  ·exact ((HE.out.wrote (h:=g5) (ab jG) HL.out.2.2 (by have:=HL.out; omega)).wrote (h:=g4) (dx _ g4 _ _ _) HL.out.1.2 HL.out.1.1).mono oM
  ·exact bf (bf HG.out (ab (g:=g5) jG) (by have:=HL.out; have:=HQ.out; omega)) (dx _ g4 _ _ _) (by have:=HQ.out; omega)
 ·have k1:=L5.cell 1
  simp only [gz0,gz1] at k1
  go_wp2_with fail
  refine (oo g A cap _ bs l.P ⟨#[35,64,10,48,49]⟩ w W7 dD dD oM oM E7).mono ?_
  rintro e W8 ⟨y,rfl,hy,E8,gr⟩
  replace L4:=L4.kept gr iE
  replace L5:=L5.kept gr iE
  replace HG:=jZ (aA HG.out gr)
  clear gr E7 k1
  have HE:=jZ E8
  clear E8
  obtain ⟨d0,d1,d2⟩:=cells3 L5
  obtain ⟨e0,e1,e2⟩:=cells3 L4
  obtain ⟨f0,f1,f2⟩:=frz3 L4
  obtain ⟨p0,p1,p2⟩:=frz3 L5
  have HL:=jZ (And.intro h4 (And.intro h45 Cc))
  have HZ:Hid ((wQ (⟨l.D,y,l.n⟩ : Lg)∧(⟨l.D,y,l.n⟩ : Lg).P.size≤5000)):=⟨⟨by simp only; omega,by simp only; omega,by simp only; omega⟩,by simp only; omega⟩
  clear h4 Cc FZ Gj Cz
  go_upto_region 9 with fail
  repeat (first | go_values | go_skip | go_guarded | go_step | go_upon | simp only [])
  refine bodyPost_ret (v:=(⟨l.D,y,l.n⟩ : Lg).val) (by simp [results,Tryz.results109,go_sem, *]) rfl ⟨⟨l.D,y,l.n⟩,rfl,HZ.out, ?_, ?_⟩
  ·exact ((HE.out.wrote (h:=g5) (ab jG) HL.out.2.2 (by have:=HL.out; omega)).wrote (h:=g4) (dx _ g4 _ _ _) HL.out.1.2 HL.out.1.1).mono oM
  ·exact bf (bf HG.out (ab (g:=g5) jG) (by have:=HL.out; have:=HQ.out; omega)) (dx _ g4 _ _ _) (by have:=HQ.out; omega)
 ·have y1:=bg l.D l.P
  have Fk:=FZ
  have HE:=jZ E7
  clear E7
  obtain ⟨d0,d1,d2⟩:=cells3 L5
  obtain ⟨e0,e1,e2⟩:=cells3 L4
  obtain ⟨f0,f1,f2⟩:=frz3 L4
  obtain ⟨p0,p1,p2⟩:=frz3 L5
  have HL:=jZ (And.intro h4 (And.intro h45 Cc))
  have HZ:Hid ((wQ (⟨l.D++l.P,l.P,l.n⟩ : Lg)∧(⟨l.D++l.P,l.P,l.n⟩ : Lg).P.size≤5000)):=⟨⟨by simp only; omega,by simp only; omega,by simp only; omega⟩,by simp only; omega⟩
  clear h4 Cc FZ Gj Cz
  go_upto_region 9 with fail
  repeat (first | go_values | go_skip | go_guarded | go_step | go_upon | simp only [])
  refine bodyPost_ret (v:=(⟨l.D++l.P,l.P,l.n⟩ : Lg).val) (by simp [results,Tryz.results109,go_sem, *]) rfl ⟨⟨l.D++l.P,l.P,l.n⟩,rfl,HZ.out, ?_, ?_⟩
  ·exact ((HE.out.wrote (h:=g5) (ab jG) HL.out.2.2 (by have:=HL.out; omega)).wrote (h:=g4) (dx _ g4 _ _ _) HL.out.1.2 HL.out.1.1).mono oM
  ·exact bf (bf HG.out (ab (g:=g5) jG) (by have:=HL.out; have:=HQ.out; omega)) (dx _ g4 _ _ _) (by have:=HQ.out; omega)
 ·have b0:((x:Int) == 0)=false:=by rw [beq_eq_false_iff_ne]; omega
  have b1:((x:Int) == 1)=false:=by rw [beq_eq_false_iff_ne]; omega
  have b2:((x:Int) == 2)=false:=by rw [beq_eq_false_iff_ne]; omega
  clear h5
  have HE:=jZ E7
  clear E7
  obtain ⟨d0,d1,d2⟩:=cells3 L5
  obtain ⟨e0,e1,e2⟩:=cells3 L4
  obtain ⟨f0,f1,f2⟩:=frz3 L4
  obtain ⟨p0,p1,p2⟩:=frz3 L5
  have HL:=jZ (And.intro h4 (And.intro h45 Cc))
  have HZ:Hid ((wQ (⟨l.D,l.P,l.n⟩ : Lg)∧(⟨l.D,l.P,l.n⟩ : Lg).P.size≤5000)):=⟨⟨by simp only; omega,by simp only; omega,by simp only; omega⟩,by simp only; omega⟩
  clear h4 Cc FZ Gj Cz
  go_upto_region 9 with fail
  repeat (first | go_values | go_skip | go_guarded | go_step | go_upon | simp only [])
  refine bodyPost_ret (v:=(⟨l.D,l.P,l.n⟩ : Lg).val) (by simp [results,Tryz.results109,go_sem, *]) rfl ⟨⟨l.D,l.P,l.n⟩,rfl,HZ.out, ?_, ?_⟩
  ·exact (HE.out.wrote (h:=g4) (dx _ g4 _ _ _) HL.out.1.2 HL.out.1.1).mono oM
  ·exact bf HG.out (dx _ g4 _ _ _) (by have:=HQ.out; omega)
end Go.Proofs.YtoeoimhemojdeaaGreatDoor
namespace Go.Proofs.YtoeoimhemojdeaaGreatDoor
def vD (n:Int):Prop:=-999999≤n∧n≤999999
theorem ks {d:Nat} (h:d < 10):Lib.digitVal (UInt8.ofNat (48+d))=some d:=by
 have:(UInt8.ofNat (48+d)).toNat=48+d:=by simp [UInt8.toNat_ofNat']; omega
 unfold Lib.digitVal
 rw [this,if_pos oM]
 congr 1; omega
theorem m9:∀ (l r:List UInt8) (acc m:Nat),Lib.decFrom acc l=some m→Lib.decFrom acc (l++r)=Lib.decFrom m r
 | [],r,acc,m,h=>by simp only [Lib.decFrom,Option.some.injEq] at h; subst h; rfl
 | b :: l,r,acc,m,h=>by
  simp only [List.cons_append,Lib.decFrom] at h ⊢
  cases hb:Lib.digitVal b with
  | none=>rw [hb] at h; cases h
  | some d=>rw [hb] at h; exact m9 l r _ _ h
theorem ja (n:Nat):Lib.decFrom 0 (Lib.decDigits n)=some n:=by
 induction n using Nat.strongRecOn with
 | _ n ih =>
  rw [Lib.decDigits]
  by_cases h:n < 10
  ·rw [dif_pos h]
   simp only [Lib.decFrom,ks h]
   congr 1; omega
  ·rw [dif_neg h,m9 _ _ _ _ (ih (n / 10) oM)]
   simp only [Lib.decFrom,ks (Nat.mod_lt n (by omega:0 < 10))]
   congr 1; omega
theorem vE (n:Nat):Lib.decDigits n ≠ []:=by
 intro h
 have h1:=Lib.decDigits_length n
 have h2:=Lib.nDigits_pos n
 rw [h] at h1; simp at h1; omega
theorem pH (n:Nat):∀ b ∈ Lib.decDigits n,48≤b.toNat∧b.toNat≤57:=by
 intro b hb
 obtain ⟨k,hk,e⟩:=List.getElem_of_mem hb
 obtain ⟨d,hd⟩:=Lib.digit_of_decFrom _ _ _ (ja n) k b (by rw [List.getElem?_eq_getElem hk,e])
 have:=Lib.digitVal_eq hd
 omega
theorem oB (n:Nat):Lib.decNat (Lib.decDigits n)=some n:=by
 unfold Lib.decNat
 rw [if_neg (by simp [vE])]
 exact ja n
theorem mA (n:Int):Lib.atoi (Lib.itoa n)=some n:=by
 unfold Lib.itoa
 by_cases h:n < 0
 ·rw [if_pos h]
  simp only [Lib.atoi,beq_self_eq_true,if_true,oB,Option.map_some,Option.some.injEq]
  omega
 ·rw [if_neg h]
  obtain ⟨m,rfl⟩:=Int.eq_ofNat_of_zero_le (by omega:0≤n)
  rw [Int.toNat_natCast]
  cases hd:Lib.decDigits m with
  | nil=>exact absurd hd (vE m)
  | cons b r =>
   have hb:=pH m b (by rw [hd]; simp)
   have h1:(b == 45)=false:=by
    rw [beq_eq_false_iff_ne]; intro e; subst e; have:(45:UInt8).toNat=45:=rfl; omega
   have h2:(b == 43)=false:=by
    rw [beq_eq_false_iff_ne]; intro e; subst e; have:(43:UInt8).toNat=43:=rfl; omega
   simp only [Lib.atoi,h1,h2,Bool.false_eq_true,if_false]
   rw [← hd,oB]
   rfl
theorem vF {n m:Int} (h:Lib.itoa n=Lib.itoa m):n=m:=by
 have:=mA n
 rw [h,mA m] at this
 exact (Option.some.inj this).symm
theorem jb {n:Nat} (h:n≤999999):Lib.nDigits n≤6:=by
 by_cases h0:n=0
 ·subst h0; rw [Lib.nDigits_small oM]; omega
 ·have h1:=Lib.nDigits_pos n
  by_cases h2:Lib.nDigits n≤6
  ·exact h2
  ·exfalso
   have key:∀ (k n:Nat),n < 10 ^ (k+1)→Lib.nDigits n≤k+1:=by
    intro k
    induction k with
    | zero=>intro n hn; rw [Lib.nDigits_small (by simpa using hn)]; omega
    | succ k ih =>
     intro n hn
     by_cases hs:n < 10
     ·rw [Lib.nDigits_small hs]; omega
     ·rw [Lib.nDigits_big hs]
      have:=ih (n / 10) (Nat.div_lt_of_lt_mul (by rw [Nat.mul_comm,← Nat.pow_succ]; exact hn))
      omega
   exact h2 (key 5 n oM)
theorem vG {n:Int} (h:vD n):1≤(Lib.itoa n).length∧(Lib.itoa n).length≤7:=by
 unfold Lib.itoa
 obtain ⟨h1,h2⟩:=h
 split
 ·have:=jb (n:=n.natAbs) oM
  rw [List.length_cons,Lib.decDigits_length]; omega
 ·have:=jb (n:=n.toNat) oM
  have h3:=Lib.nDigits_pos n.toNat
  rw [Lib.decDigits_length]; omega
open Classical in
noncomputable def df (s:List UInt8):Option Int:=if h:∃ n,vD n∧Lib.itoa n=s then some h.choose else none
theorem uD {n:Int} (h:vD n):df (Lib.itoa n)=some n:=by
 have Ad:∃ m,vD m∧Lib.itoa m=Lib.itoa n:=⟨n,h,rfl⟩
 unfold df
 rw [dif_pos Ad]
 exact congrArg some (vF Ad.choose_spec.2)
theorem nI {n:Int} {s:List UInt8} (h:vD n) (e:Lib.itoa n=s):df s=some n:=e ▸ uD h
theorem jc {n:Int} {s:List UInt8} (h:df s=some n):vD n∧Lib.itoa n=s:=by
 by_cases Ad:∃ m,vD m∧Lib.itoa m=s
 ·unfold df at h
  rw [dif_pos Ad] at h
  have:=Ad.choose_spec
  rw [Option.some.inj h] at this
  exact this
 ·unfold df at h
  rw [dif_neg Ad] at h; cases h
theorem rB {n:Int} (h:vD n):Lib.atoiAll (Lib.itoa n)=.ok n:=by
 rw [Lib.atoiAll_short _ (by have:=vG h; omega),mA]; rfl
theorem vH {s:List UInt8} {n:Int} (h:vD n) (e:Lib.itoa n=s) :
  (n < 0∧∃ t,s=45 :: t∧1≤t.length∧t.length≤6∧Lib.decFrom 0 t=some n.natAbs) ∨ (0≤n∧s.head? ≠ some 45∧1≤s.length∧s.length≤6∧Lib.decFrom 0 s=some n.natAbs):=by
 obtain ⟨h1,h2⟩:=h
 unfold Lib.itoa at e
 by_cases hn:n < 0
 ·left
  rw [if_pos hn] at e
  have h3:=jb (n:=n.natAbs) oM
  have h4:=Lib.nDigits_pos n.natAbs
  exact ⟨hn,_,e.symm,by rw [Lib.decDigits_length]; omega,by rw [Lib.decDigits_length]; omega,ja _⟩
 ·right
  rw [if_neg hn] at e
  have h3:=jb (n:=n.toNat) oM
  have h4:=Lib.nDigits_pos n.toNat
  have h5:n.natAbs=n.toNat:=oM
  subst e
  refine ⟨oM, ?_,by rw [Lib.decDigits_length]; omega,by rw [Lib.decDigits_length]; omega,by rw [h5]; exact ja _⟩
  intro hh
  have hm:(45:UInt8) ∈ Lib.decDigits n.toNat:=List.mem_of_mem_head? hh
  have:=pH _ _ hm
  have h6:(45:UInt8).toNat=45:=rfl
  omega
end Go.Proofs.YtoeoimhemojdeaaGreatDoor
namespace Go.Proofs.YtoeoimhemojdeaaGreatDoor
open Go.RowKit
def aT (sel:ae→Bool) (get:ae→Int):List ae→List Int
 | []=>[]
 | r :: l=>if sel r then get r :: aT sel get l else aT sel get l
theorem kL {sel:ae→Bool} {get:ae→Int} {l:List ae} {k:Nat} (h:k < l.length) (hs:sel l[k]=true):aT sel get (l.drop k)=get l[k] :: aT sel get (l.drop (k+1)):=by
 rw [List.drop_eq_getElem_cons h,aT,if_pos hs]
theorem lV {sel:ae→Bool} {get:ae→Int} {l:List ae} {k:Nat} (h:k < l.length) (hs:sel l[k]=false):aT sel get (l.drop k)=aT sel get (l.drop (k+1)):=by
 rw [List.drop_eq_getElem_cons h,aT,if_neg (by rw [hs]; exact Bool.false_ne_true)]
theorem mB (sel:ae→Bool) (get:ae→Int):∀ l:List ae,(aT sel get l).length≤l.length
 | []=>Nat.le_refl _
 | r :: l=>by
  have:=mB sel get l
  unfold aT
  split <;> simp <;> omega
def bC (ok:Bool) (l:List Int):List Int:=if ok then l else []
theorem cq.lower {w:World} {B B' : Nat} {t:TypeId} {k:Nat} {A:Option Addr} {n:Nat} {cs:List Value} (h:cq w B t k A n cs) (hB:B'≤B):cq w B' t k A n cs:=by
 obtain ⟨hl,hn,h0 | ⟨g,rest,hA,hg,hh⟩⟩:=h
 ·exact ⟨hl,hn,.inl h0⟩
 ·exact ⟨hl,hn,.inr ⟨g,rest,hA,jT hB hg,hh⟩⟩
theorem nw (x:aN) (st:Int) (w:World) (h:aQ w w.heap.size x) :
  Calls xi 140 #[x.val,O U st] w fun e w'=>∃ A' c',e=.returned (.tuple #[F A' (bC (ap x && bX st 1 999) (aT (fun r:ae=>decide (r.p=st)) ae.k x.o)).length c',.bool (ap x && bX st 1 999)])∧cq w' w.heap.size 3 1 A' (bC (ap x && bX st 1 999) (aT (fun r:ae=>decide (r.p=st)) ae.k x.o)).length (bj (bC (ap x && bX st 1 999) (aT (fun r:ae=>decide (r.p=st)) ae.k x.o)))∧Below w.heap.size w w':=by
 have b2:=bZ w (.cells #[F x.TA x.t.length x.tc,F x.OA x.o.length x.oc,O U x.gt,O U x.sd,O U x.ms] 40)
 have hA:=iy h 40
 have hsW:(w.alloc (.cells #[F x.TA x.t.length x.tc,F x.OA x.o.length x.oc,O U x.gt,O U x.sd,O U x.ms] 40)).heap.size=w.heap.size+1:=Array.size_push _
 have Af:=jZ hsW; clear hsW
 have cG:=fun W hW=>ei x W hW
 cases hg:ap x
 ·rw [hg] at cG
  clear hg
  go_enter Tryz.func140,Tryz.ntmps140
  go_wp2_with fail
  generalize (w.alloc (.cells #[F x.TA x.t.length x.tc,F x.OA x.o.length x.oc,O U x.gt,O U x.sd,O U x.ms] 40))=W at b2 hA Af ⊢
  obtain ⟨q0,zV⟩ : ∃ q0:aq W.heap.size W,W.alloc (.cells #[] 3)=q0.val:=⟨⟨W.alloc (.cells #[] 3),jB.alloc nR _⟩,rfl⟩
  have hO:ai q0.val (w.heap.size+1) 3 []:=by rw [← zV,← Af.out]; exact ai.new W 3 #[]
  rw [zV]
  clear zV
  refine (cG _ (hA.r.at q0)).mono ?_
  rintro e w1 ⟨rfl,xp⟩
  obtain ⟨q1,rfl⟩ : ∃ q1:aq W.heap.size W,w1=q1.val:=⟨q0.go nR xp,rfl⟩
  go_wp2
  go_ret2
  show ∃ A' c',_=Ending.returned (.tuple #[F A' ([] : List Int).length c',.bool false])∧cq _ _ _ 1 A' ([] : List Int).length (bj [])∧_
  exact ⟨_,_,rfl,⟨rfl,sP,.inr ⟨w.heap.size+1,[],rfl,Nat.le_succ _,by simpa using (hO.below (xp) hO.lt)⟩⟩,b2.trans (q1.below.mono b2.size)⟩
 ·rw [hg] at cG
  have G:=bu.1 hg
  have ol:=G.ol
  have hl:=h.os.big
  clear hg G
  obtain ⟨v2,xV⟩ : ∃ v,bX st 1 999=v:=⟨_,rfl⟩
  have H2:=jZ xV
  rw [xV]
  clear xV
  cases v2
  ·go_enter Tryz.func140,Tryz.ntmps140
   go_wp2_with fail
   generalize (w.alloc (.cells #[F x.TA x.t.length x.tc,F x.OA x.o.length x.oc,O U x.gt,O U x.sd,O U x.ms] 40))=W at b2 hA Af ⊢
   obtain ⟨q0,zV⟩ : ∃ q0:aq W.heap.size W,W.alloc (.cells #[] 3)=q0.val:=⟨⟨W.alloc (.cells #[] 3),jB.alloc nR _⟩,rfl⟩
   have hO:ai q0.val (w.heap.size+1) 3 []:=by rw [← zV,← Af.out]; exact ai.new W 3 #[]
   rw [zV]
   clear zV
   obtain ⟨p0,p1,p2,p3,p4⟩:=hA.s
   refine (cG _ (hA.r.at q0)).mono ?_
   rintro e w1 ⟨rfl,xp⟩
   obtain ⟨q1,rfl⟩ : ∃ q1:aq W.heap.size W,w1=q1.val:=⟨q0.go nR xp,rfl⟩
   go_wp2_with fail
   refine ((aI st 1 999 _)).mono ?_
   rw [H2.out]
   rintro e w2 ⟨rfl,rfl⟩
   go_wp2
   go_ret2
   show ∃ A' c',_=Ending.returned (.tuple #[F A' ([] : List Int).length c',.bool false])∧cq _ _ _ 1 A' ([] : List Int).length (bj [])∧_
   exact ⟨_,_,rfl,⟨rfl,sP,.inr ⟨w.heap.size+1,[],rfl,Nat.le_succ _,by simpa using (hO.below (xp) hO.lt)⟩⟩,b2.trans (q1.below.mono b2.size)⟩
  ·have HF:Hid (aT (fun r:ae=>decide (r.p=st)) ae.k (x.o.drop 0)=aT (fun r:ae=>decide (r.p=st)) ae.k x.o):=rfl
   go_enter Tryz.func140,Tryz.ntmps140
   go_wp2_with fail
   generalize (w.alloc (.cells #[F x.TA x.t.length x.tc,F x.OA x.o.length x.oc,O U x.gt,O U x.sd,O U x.ms] 40))=W at b2 hA Af ⊢
   obtain ⟨q0,zV⟩ : ∃ q0:aq W.heap.size W,W.alloc (.cells #[] 3)=q0.val:=⟨⟨W.alloc (.cells #[] 3),jB.alloc nR _⟩,rfl⟩
   have hO:ai q0.val (w.heap.size+1) 3 []:=by rw [← zV,← Af.out]; exact ai.new W 3 #[]
   rw [zV]
   clear zV
   obtain ⟨p0,p1,p2,p3,p4⟩:=hA.s
   have yt:=hA.r.os.el
   refine (cG _ (hA.r.at q0)).mono ?_
   rintro e w1 ⟨rfl,xp⟩
   obtain ⟨q1,rfl⟩ : ∃ q1:aq W.heap.size W,w1=q1.val:=⟨q0.go nR xp,rfl⟩
   go_wp2_with fail
   refine ((aI st 1 999 _)).mono ?_
   rw [H2.out]
   rintro e w2 ⟨rfl,rfl⟩
   obtain ⟨OA,yJ⟩ : ∃ A,x.OA=A:=⟨_,rfl⟩
   rw [yJ] at yt
   simp only [yJ] at p1
   clear yJ
   go_wp2
   go_loopw [6,7] (fun out i wr=>∃ (k:Nat) (acc:List Int),k≤x.o.length∧i=O U k∧acc.length≤k∧Hid (wr.ownsRow W.heap.size 3 1 out acc.length (bj acc))∧(Below W.heap.size W wr)∧Hid (acc++aT (fun r:ae=>decide (r.p=st)) ae.k (x.o.drop k)=aT (fun r:ae=>decide (r.p=st)) ae.k x.o)) (fun _ i _=>x.o.length - (intOf i).toNat)
   case atStart=>exact ⟨0,[],Nat.zero_le _,rfl,Nat.zero_le _,((hO.below (xp) hO.lt).own (B:=W.heap.size) (k:=1) (n:=0) (by rw [Af.out]; exact Nat.le_refl _) rfl (by unfold maxLen; omega)),q1.below,HF⟩
   case round =>
    obtain ⟨k,acc,hk,rfl,AS,HO,zc,HR⟩:=hrel
    obtain ⟨q,rfl⟩ : ∃ q:aq W.heap.size W,wr=q.val:=⟨⟨wr,zc⟩,rfl⟩
    by_cases xu:k < x.o.length
    ·obtain ⟨b,off,rfl,hb,hcell⟩:=yt oM
     obtain ⟨e0,e1,e2⟩:=hcell k xu
     have hy:=fun hv=>kL (sel:=(fun r:ae=>decide (r.p=st))) (get:=ae.k) xu hv
     have hn:=fun hv=>lV (sel:=(fun r:ae=>decide (r.p=st))) (get:=ae.k) xu hv
     obtain ⟨r,xW⟩ : ∃ r,r=x.o[k]:=⟨_,rfl⟩
     rw [← xW] at e0 e1 e2 hy hn
     clear xW hcell yt
     by_cases hz:r.p=st
     ·have hv:(r.p == st)=true:=by simp [hz]
      have HE:Hid ((acc++[r.k])++aT (fun r:ae=>decide (r.p=st)) ae.k (x.o.drop (k+1))=aT (fun r:ae=>decide (r.p=st)) ae.k x.o):=by
       have h1:=HR.out; rw [hy (jD hz)] at h1; unfold Hid; rw [List.append_assoc]; exact h1
      clear hy hn hz HR
      go_wp2_with (at_builtin; refine cw (w0:=q.val) rfl _ _ 100 rfl 3 (O U 0) 1 8 Tryz.underlying100 i8 rfl (by decide) (by omega) W.heap.size _ _ _ rfl HO #[O U r.k] 1 _ rfl (by first | rfl | exact Array.size_push _) rfl (by simp [Value.oneCell']) (by omega) q.size rfl rfl rfl rfl ?_; intro v' w3 Bw hg3 xB)
      obtain ⟨A3,c3,rfl⟩:=az Bw.out
      go_wp2
      go_roundw
      case rel=>exact ⟨k+1,acc++[r.k],oM,by go_num,by simp; omega,by rw [List.length_append]; unfold bj at Bw ⊢; rw [List.map_append]; exact Bw,q.below.grown hg3 q.size (fun g hg=>(HO.out.lt g hg).1),HE⟩
      case measure=>simp [intOf]; omega
     ·have hv:(r.p == st)=false:=by simp [hz]
      have HE:Hid (acc++aT (fun r:ae=>decide (r.p=st)) ae.k (x.o.drop (k+1))=aT (fun r:ae=>decide (r.p=st)) ae.k x.o):=by
       have h1:=HR.out; rw [hn (jE hz)] at h1; exact h1
      clear hy hn hz HR
      go_wp2
      go_roundw
      case rel=>exact ⟨k+1,acc,oM,by go_num,oM,HO,q.below,HE⟩
      case measure=>simp [intOf]; omega
    ·have HE:Hid (acc=aT (fun r:ae=>decide (r.p=st)) ae.k x.o):=by
      have h1:=HR.out; rw [List.drop_eq_nil_of_le oM,show aT (fun r:ae=>decide (r.p=st)) ae.k [] = [] from rfl,List.append_nil] at h1; exact h1
     obtain ⟨A3,c3,rfl⟩:=az HO.out
     clear yt
     go_wp2
     go_ret2
     have e1:bC (true && true) (aT (fun r:ae=>decide (r.p=st)) ae.k x.o)=acc:=HE.out.symm
     rw [e1]
     exact ⟨_,_,rfl,(cq.of HO.out).lower b2.size,b2.trans (q.below.mono b2.size)⟩
theorem nx (x:aN) (st:Int) (w:World) (h:aQ w w.heap.size x) :
  Calls xi 154 #[x.val,O U st] w fun e w'=>∃ A' c',e=.returned (.tuple #[F A' (bC (ap x && bX st 1 999) (aT (fun r:ae=>decide (r.p=st)) ae.k x.o)).length c',.bool (ap x && bX st 1 999)])∧cq w' w.heap.size 3 1 A' (bC (ap x && bX st 1 999) (aT (fun r:ae=>decide (r.p=st)) ae.k x.o)).length (bj (bC (ap x && bX st 1 999) (aT (fun r:ae=>decide (r.p=st)) ae.k x.o)))∧Below w.heap.size w w':=by
 have b2:=bZ w (.cells #[F x.TA x.t.length x.tc,F x.OA x.o.length x.oc,O U x.gt,O U x.sd,O U x.ms] 40)
 have hA:=iy h 40
 have hsW:(w.alloc (.cells #[F x.TA x.t.length x.tc,F x.OA x.o.length x.oc,O U x.gt,O U x.sd,O U x.ms] 40)).heap.size=w.heap.size+1:=Array.size_push _
 have Af:=jZ hsW; clear hsW
 have cG:=fun W hW=>aZ x w.heap.size W hW
 cases hg:ap x
 ·rw [hg] at cG
  clear hg
  go_enter Tryz.func154,Tryz.ntmps154
  go_wp2_with fail
  generalize (w.alloc (.cells #[F x.TA x.t.length x.tc,F x.OA x.o.length x.oc,O U x.gt,O U x.sd,O U x.ms] 40))=W at b2 hA Af ⊢
  refine (aX (cG _ hA)).mono ?_
  rintro e w1 ⟨rfl,q1,rfl⟩
  go_wp2
  go_ret2
  show ∃ A' c',_=Ending.returned (.tuple #[F A' ([] : List Int).length c',.bool false])∧cq _ _ _ 1 A' ([] : List Int).length (bj [])∧_
  exact ⟨_,_,rfl,⟨rfl,sP,.inl ⟨rfl,rfl⟩⟩,b2.trans (q1.below.mono b2.size)⟩
 ·rw [hg] at cG
  have G:=bu.1 hg
  have ol:=G.ol
  have hl:=h.os.big
  clear hg G
  obtain ⟨v2,xV⟩ : ∃ v,bX st 1 999=v:=⟨_,rfl⟩
  have H2:=jZ xV
  rw [xV]
  clear xV
  cases v2
  ·go_enter Tryz.func154,Tryz.ntmps154
   go_wp2_with fail
   generalize (w.alloc (.cells #[F x.TA x.t.length x.tc,F x.OA x.o.length x.oc,O U x.gt,O U x.sd,O U x.ms] 40))=W at b2 hA Af ⊢
   obtain ⟨p0,p1,p2,p3,p4⟩:=hA.s
   refine (aX (cG _ hA)).mono ?_
   rintro e w1 ⟨rfl,q1,rfl⟩
   go_wp2_with fail
   refine ((bQ st _)).mono ?_
   rw [H2.out]
   rintro e w2 ⟨rfl,rfl⟩
   go_wp2
   go_ret2
   show ∃ A' c',_=Ending.returned (.tuple #[F A' ([] : List Int).length c',.bool false])∧cq _ _ _ 1 A' ([] : List Int).length (bj [])∧_
   exact ⟨_,_,rfl,⟨rfl,sP,.inl ⟨rfl,rfl⟩⟩,b2.trans (q1.below.mono b2.size)⟩
  ·have HF:Hid (aT (fun r:ae=>decide (r.p=st)) ae.k (x.o.drop 0)=aT (fun r:ae=>decide (r.p=st)) ae.k x.o):=rfl
   go_enter Tryz.func154,Tryz.ntmps154
   go_wp2_with fail
   generalize (w.alloc (.cells #[F x.TA x.t.length x.tc,F x.OA x.o.length x.oc,O U x.gt,O U x.sd,O U x.ms] 40))=W at b2 hA Af ⊢
   obtain ⟨p0,p1,p2,p3,p4⟩:=hA.s
   have yt:=hA.r.os.el
   refine (aX (cG _ hA)).mono ?_
   rintro e w1 ⟨rfl,q1,rfl⟩
   go_wp2_with fail
   refine ((bQ st _)).mono ?_
   rw [H2.out]
   rintro e w2 ⟨rfl,rfl⟩
   obtain ⟨OA,yJ⟩ : ∃ A,x.OA=A:=⟨_,rfl⟩
   rw [yJ] at yt
   simp only [yJ] at p1
   clear yJ
   go_wp2
   go_loopw [6,19] (fun out i wr=>∃ (k:Nat) (acc:List Int),k≤x.o.length∧i=O U k∧acc.length≤k∧Hid (wr.ownsRow W.heap.size 3 1 out acc.length (bj acc))∧(Below W.heap.size W wr)∧Hid (acc++aT (fun r:ae=>decide (r.p=st)) ae.k (x.o.drop k)=aT (fun r:ae=>decide (r.p=st)) ae.k x.o)) (fun _ i _=>x.o.length - (intOf i).toNat)
   case atStart=>exact ⟨0,[],Nat.zero_le _,rfl,Nat.zero_le _,(World.ownsRow_nil _ _ _ _),q1.below,HF⟩
   case round =>
    obtain ⟨k,acc,hk,rfl,AS,HO,zc,HR⟩:=hrel
    obtain ⟨q,rfl⟩ : ∃ q:aq W.heap.size W,wr=q.val:=⟨⟨wr,zc⟩,rfl⟩
    by_cases xu:k < x.o.length
    ·obtain ⟨b,off,rfl,hb,hcell⟩:=yt oM
     obtain ⟨e0,e1,e2⟩:=hcell k xu
     have hy:=fun hv=>kL (sel:=(fun r:ae=>decide (r.p=st))) (get:=ae.k) xu hv
     have hn:=fun hv=>lV (sel:=(fun r:ae=>decide (r.p=st))) (get:=ae.k) xu hv
     obtain ⟨r,xW⟩ : ∃ r,r=x.o[k]:=⟨_,rfl⟩
     rw [← xW] at e0 e1 e2 hy hn
     clear xW hcell yt
     by_cases hz:r.p=st
     ·have hv:(r.p == st)=true:=by simp [hz]
      have HE:Hid ((acc++[r.k])++aT (fun r:ae=>decide (r.p=st)) ae.k (x.o.drop (k+1))=aT (fun r:ae=>decide (r.p=st)) ae.k x.o):=by
       have h1:=HR.out; rw [hy (jD hz)] at h1; unfold Hid; rw [List.append_assoc]; exact h1
      clear hy hn hz HR
      have Hr:=jZ (HO.out.alloc (.cells #[O U r.k,O U r.p,O U r.c] 147))
      have hbV:=q.below.alloc q.size (.cells #[O U r.k,O U r.p,O U r.c] 147)
      have hsV:=hbV.size
      clear HO
      go_wp2_with (at_builtin; refine cw (w0:=q.val.alloc (.cells #[O U r.k,O U r.p,O U r.c] 147)) rfl _ _ 100 rfl 3 (O U 0) 1 8 Tryz.underlying100 i8 rfl (by decide) (by omega) W.heap.size _ _ _ rfl Hr #[O U r.k] 1 _ rfl (by first | rfl | exact Array.size_push _) rfl (by simp [Value.oneCell']) (by omega) hsV rfl rfl rfl rfl ?_; intro v' w3 Bw hg3 xB)
      obtain ⟨A3,c3,rfl⟩:=az Bw.out
      go_wp2
      go_roundw
      case rel=>exact ⟨k+1,acc++[r.k],oM,by go_num,by simp; omega,by rw [List.length_append]; unfold bj at Bw ⊢; rw [List.map_append]; exact Bw,hbV.grown hg3 hbV.size (fun g hg=>(Hr.out.lt g hg).1),HE⟩
      case measure=>simp [intOf]; omega
     ·have hv:(r.p == st)=false:=by simp [hz]
      have HE:Hid (acc++aT (fun r:ae=>decide (r.p=st)) ae.k (x.o.drop (k+1))=aT (fun r:ae=>decide (r.p=st)) ae.k x.o):=by
       have h1:=HR.out; rw [hn (jE hz)] at h1; exact h1
      clear hy hn hz HR
      go_wp2
      go_roundw
      case rel=>exact ⟨k+1,acc,oM,by go_num,oM,jZ (HO.out.alloc _),q.below.alloc q.size _,HE⟩
      case measure=>simp [intOf]; omega
    ·have HE:Hid (acc=aT (fun r:ae=>decide (r.p=st)) ae.k x.o):=by
      have h1:=HR.out; rw [List.drop_eq_nil_of_le oM,show aT (fun r:ae=>decide (r.p=st)) ae.k [] = [] from rfl,List.append_nil] at h1; exact h1
     obtain ⟨A3,c3,rfl⟩:=az HO.out
     clear yt
     go_wp2
     go_ret2
     have e1:bC (true && true) (aT (fun r:ae=>decide (r.p=st)) ae.k x.o)=acc:=HE.out.symm
     rw [e1]
     exact ⟨_,_,rfl,(cq.of HO.out).lower b2.size,b2.trans (q.below.mono b2.size)⟩
theorem kQ (x:aN) (st:Int) (w:World) (h:aQ w w.heap.size x) :
  Calls xi 142 #[x.val,O U st] w fun e w'=>∃ A' c',e=.returned (.tuple #[F A' (bC (ap x && aS x.t st) (aT (fun r:ae=>decide (r.k=st)) ae.p x.o)).length c',.bool (ap x && aS x.t st)])∧cq w' w.heap.size 3 1 A' (bC (ap x && aS x.t st) (aT (fun r:ae=>decide (r.k=st)) ae.p x.o)).length (bj (bC (ap x && aS x.t st) (aT (fun r:ae=>decide (r.k=st)) ae.p x.o)))∧Below w.heap.size w w':=by
 have b2:=bZ w (.cells #[F x.TA x.t.length x.tc,F x.OA x.o.length x.oc,O U x.gt,O U x.sd,O U x.ms] 40)
 have hA:=iy h 40
 have hsW:(w.alloc (.cells #[F x.TA x.t.length x.tc,F x.OA x.o.length x.oc,O U x.gt,O U x.sd,O U x.ms] 40)).heap.size=w.heap.size+1:=Array.size_push _
 have Af:=jZ hsW; clear hsW
 have cG:=fun W hW=>ei x W hW
 cases hg:ap x
 ·rw [hg] at cG
  clear hg
  go_enter Tryz.func142,Tryz.ntmps142
  go_wp2_with fail
  generalize (w.alloc (.cells #[F x.TA x.t.length x.tc,F x.OA x.o.length x.oc,O U x.gt,O U x.sd,O U x.ms] 40))=W at b2 hA Af ⊢
  obtain ⟨q0,zV⟩ : ∃ q0:aq W.heap.size W,W.alloc (.cells #[] 3)=q0.val:=⟨⟨W.alloc (.cells #[] 3),jB.alloc nR _⟩,rfl⟩
  have hO:ai q0.val (w.heap.size+1) 3 []:=by rw [← zV,← Af.out]; exact ai.new W 3 #[]
  rw [zV]
  clear zV
  refine (cG _ (hA.r.at q0)).mono ?_
  rintro e w1 ⟨rfl,xp⟩
  obtain ⟨q1,rfl⟩ : ∃ q1:aq W.heap.size W,w1=q1.val:=⟨q0.go nR xp,rfl⟩
  go_wp2
  go_ret2
  show ∃ A' c',_=Ending.returned (.tuple #[F A' ([] : List Int).length c',.bool false])∧cq _ _ _ 1 A' ([] : List Int).length (bj [])∧_
  exact ⟨_,_,rfl,⟨rfl,sP,.inr ⟨w.heap.size+1,[],rfl,Nat.le_succ _,by simpa using (hO.below (xp) hO.lt)⟩⟩,b2.trans (q1.below.mono b2.size)⟩
 ·rw [hg] at cG
  have G:=bu.1 hg
  have ol:=G.ol
  have hl:=h.os.big
  clear hg G
  obtain ⟨X,hX⟩ : ∃ X,ay x.t st=X:=⟨_,rfl⟩
  have HX:Hid (Value.int .i64 (ay x.t st)=O U X):=by rw [hX]; rfl
  obtain ⟨v2,xV⟩ : ∃ v,aS x.t st=v:=⟨_,rfl⟩
  have Au:decide (0≤X)=v2:=by rw [← hX,← xV]; exact dP _ _
  rw [xV]
  clear hX xV
  cases v2
  ·go_enter Tryz.func142,Tryz.ntmps142
   have Kv:X < 0:=by have:=of_decide_eq_false Au; omega
   clear Au
   go_wp2_with fail
   generalize (w.alloc (.cells #[F x.TA x.t.length x.tc,F x.OA x.o.length x.oc,O U x.gt,O U x.sd,O U x.ms] 40))=W at b2 hA Af ⊢
   obtain ⟨q0,zV⟩ : ∃ q0:aq W.heap.size W,W.alloc (.cells #[] 3)=q0.val:=⟨⟨W.alloc (.cells #[] 3),jB.alloc nR _⟩,rfl⟩
   have hO:ai q0.val (w.heap.size+1) 3 []:=by rw [← zV,← Af.out]; exact ai.new W 3 #[]
   rw [zV]
   clear zV
   obtain ⟨p0,p1,p2,p3,p4⟩:=hA.s
   refine (cG _ (hA.r.at q0)).mono ?_
   rintro e w1 ⟨rfl,xp⟩
   obtain ⟨q1,rfl⟩ : ∃ q1:aq W.heap.size W,w1=q1.val:=⟨q0.go nR xp,rfl⟩
   go_wp2_with fail
   refine (bP x st _ (hA.r.at q1)).mono ?_
   rw [HX.out]
   rintro e w2 ⟨rfl,xn⟩
   have zk:=av xp xn
   obtain ⟨q2,rfl⟩ : ∃ q2:aq W.heap.size W,w2=q2.val:=⟨q1.go nR xn,rfl⟩
   go_wp2
   go_ret2
   show ∃ A' c',_=Ending.returned (.tuple #[F A' ([] : List Int).length c',.bool false])∧cq _ _ _ 1 A' ([] : List Int).length (bj [])∧_
   exact ⟨_,_,rfl,⟨rfl,sP,.inr ⟨w.heap.size+1,[],rfl,Nat.le_succ _,by simpa using (hO.below (zk) hO.lt)⟩⟩,b2.trans (q2.below.mono b2.size)⟩
  ·have HF:Hid (aT (fun r:ae=>decide (r.k=st)) ae.p (x.o.drop 0)=aT (fun r:ae=>decide (r.k=st)) ae.p x.o):=rfl
   have Kv:0≤X:=of_decide_eq_true Au
   clear Au
   go_enter Tryz.func142,Tryz.ntmps142
   go_wp2_with fail
   generalize (w.alloc (.cells #[F x.TA x.t.length x.tc,F x.OA x.o.length x.oc,O U x.gt,O U x.sd,O U x.ms] 40))=W at b2 hA Af ⊢
   obtain ⟨q0,zV⟩ : ∃ q0:aq W.heap.size W,W.alloc (.cells #[] 3)=q0.val:=⟨⟨W.alloc (.cells #[] 3),jB.alloc nR _⟩,rfl⟩
   have hO:ai q0.val (w.heap.size+1) 3 []:=by rw [← zV,← Af.out]; exact ai.new W 3 #[]
   rw [zV]
   clear zV
   obtain ⟨p0,p1,p2,p3,p4⟩:=hA.s
   have yt:=hA.r.os.el
   refine (cG _ (hA.r.at q0)).mono ?_
   rintro e w1 ⟨rfl,xp⟩
   obtain ⟨q1,rfl⟩ : ∃ q1:aq W.heap.size W,w1=q1.val:=⟨q0.go nR xp,rfl⟩
   go_wp2_with fail
   refine (bP x st _ (hA.r.at q1)).mono ?_
   rw [HX.out]
   rintro e w2 ⟨rfl,xn⟩
   have zk:=av xp xn
   obtain ⟨q2,rfl⟩ : ∃ q2:aq W.heap.size W,w2=q2.val:=⟨q1.go nR xn,rfl⟩
   obtain ⟨OA,yJ⟩ : ∃ A,x.OA=A:=⟨_,rfl⟩
   rw [yJ] at yt
   simp only [yJ] at p1
   clear yJ
   go_wp2
   go_loopw [6,7] (fun out i wr=>∃ (k:Nat) (acc:List Int),k≤x.o.length∧i=O U k∧acc.length≤k∧Hid (wr.ownsRow W.heap.size 3 1 out acc.length (bj acc))∧(Below W.heap.size W wr)∧Hid (acc++aT (fun r:ae=>decide (r.k=st)) ae.p (x.o.drop k)=aT (fun r:ae=>decide (r.k=st)) ae.p x.o)) (fun _ i _=>x.o.length - (intOf i).toNat)
   case atStart=>exact ⟨0,[],Nat.zero_le _,rfl,Nat.zero_le _,((hO.below (zk) hO.lt).own (B:=W.heap.size) (k:=1) (n:=0) (by rw [Af.out]; exact Nat.le_refl _) rfl (by unfold maxLen; omega)),q2.below,HF⟩
   case round =>
    obtain ⟨k,acc,hk,rfl,AS,HO,zc,HR⟩:=hrel
    obtain ⟨q,rfl⟩ : ∃ q:aq W.heap.size W,wr=q.val:=⟨⟨wr,zc⟩,rfl⟩
    by_cases xu:k < x.o.length
    ·obtain ⟨b,off,rfl,hb,hcell⟩:=yt oM
     obtain ⟨e0,e1,e2⟩:=hcell k xu
     have hy:=fun hv=>kL (sel:=(fun r:ae=>decide (r.k=st))) (get:=ae.p) xu hv
     have hn:=fun hv=>lV (sel:=(fun r:ae=>decide (r.k=st))) (get:=ae.p) xu hv
     obtain ⟨r,xW⟩ : ∃ r,r=x.o[k]:=⟨_,rfl⟩
     rw [← xW] at e0 e1 e2 hy hn
     clear xW hcell yt
     by_cases hz:r.k=st
     ·have hv:(r.k == st)=true:=by simp [hz]
      have HE:Hid ((acc++[r.p])++aT (fun r:ae=>decide (r.k=st)) ae.p (x.o.drop (k+1))=aT (fun r:ae=>decide (r.k=st)) ae.p x.o):=by
       have h1:=HR.out; rw [hy (jD hz)] at h1; unfold Hid; rw [List.append_assoc]; exact h1
      clear hy hn hz HR
      go_wp2_with (at_builtin; refine cw (w0:=q.val) rfl _ _ 100 rfl 3 (O U 0) 1 8 Tryz.underlying100 i8 rfl (by decide) (by omega) W.heap.size _ _ _ rfl HO #[O U r.p] 1 _ rfl (by first | rfl | exact Array.size_push _) rfl (by simp [Value.oneCell']) (by omega) q.size rfl rfl rfl rfl ?_; intro v' w3 Bw hg3 xB)
      obtain ⟨A3,c3,rfl⟩:=az Bw.out
      go_wp2
      go_roundw
      case rel=>exact ⟨k+1,acc++[r.p],oM,by go_num,by simp; omega,by rw [List.length_append]; unfold bj at Bw ⊢; rw [List.map_append]; exact Bw,q.below.grown hg3 q.size (fun g hg=>(HO.out.lt g hg).1),HE⟩
      case measure=>simp [intOf]; omega
     ·have hv:(r.k == st)=false:=by simp [hz]
      have HE:Hid (acc++aT (fun r:ae=>decide (r.k=st)) ae.p (x.o.drop (k+1))=aT (fun r:ae=>decide (r.k=st)) ae.p x.o):=by
       have h1:=HR.out; rw [hn (jE hz)] at h1; exact h1
      clear hy hn hz HR
      go_wp2
      go_roundw
      case rel=>exact ⟨k+1,acc,oM,by go_num,oM,HO,q.below,HE⟩
      case measure=>simp [intOf]; omega
    ·have HE:Hid (acc=aT (fun r:ae=>decide (r.k=st)) ae.p x.o):=by
      have h1:=HR.out; rw [List.drop_eq_nil_of_le oM,show aT (fun r:ae=>decide (r.k=st)) ae.p [] = [] from rfl,List.append_nil] at h1; exact h1
     obtain ⟨A3,c3,rfl⟩:=az HO.out
     clear yt
     go_wp2
     go_ret2
     have e1:bC (true && true) (aT (fun r:ae=>decide (r.k=st)) ae.p x.o)=acc:=HE.out.symm
     rw [e1]
     exact ⟨_,_,rfl,(cq.of HO.out).lower b2.size,b2.trans (q.below.mono b2.size)⟩
theorem kS (x:aN) (st:Int) (w:World) (h:aQ w w.heap.size x) :
  Calls xi 155 #[x.val,O U st] w fun e w'=>∃ A' c',e=.returned (.tuple #[F A' (bC (ap x && aS x.t st) (aT (fun r:ae=>decide (r.k=st)) ae.p x.o)).length c',.bool (ap x && aS x.t st)])∧cq w' w.heap.size 3 1 A' (bC (ap x && aS x.t st) (aT (fun r:ae=>decide (r.k=st)) ae.p x.o)).length (bj (bC (ap x && aS x.t st) (aT (fun r:ae=>decide (r.k=st)) ae.p x.o)))∧Below w.heap.size w w':=by
 have b2:=bZ w (.cells #[F x.TA x.t.length x.tc,F x.OA x.o.length x.oc,O U x.gt,O U x.sd,O U x.ms] 40)
 have hA:=iy h 40
 have hsW:(w.alloc (.cells #[F x.TA x.t.length x.tc,F x.OA x.o.length x.oc,O U x.gt,O U x.sd,O U x.ms] 40)).heap.size=w.heap.size+1:=Array.size_push _
 have Af:=jZ hsW; clear hsW
 have cG:=fun W hW=>aZ x w.heap.size W hW
 cases hg:ap x
 ·rw [hg] at cG
  clear hg
  go_enter Tryz.func155,Tryz.ntmps155
  go_wp2_with fail
  generalize (w.alloc (.cells #[F x.TA x.t.length x.tc,F x.OA x.o.length x.oc,O U x.gt,O U x.sd,O U x.ms] 40))=W at b2 hA Af ⊢
  refine (aX (cG _ hA)).mono ?_
  rintro e w1 ⟨rfl,q1,rfl⟩
  go_wp2
  go_ret2
  show ∃ A' c',_=Ending.returned (.tuple #[F A' ([] : List Int).length c',.bool false])∧cq _ _ _ 1 A' ([] : List Int).length (bj [])∧_
  exact ⟨_,_,rfl,⟨rfl,sP,.inl ⟨rfl,rfl⟩⟩,b2.trans (q1.below.mono b2.size)⟩
 ·rw [hg] at cG
  have G:=bu.1 hg
  have ol:=G.ol
  have hl:=h.os.big
  clear hg G
  obtain ⟨X,hX⟩ : ∃ X,ay x.t st=X:=⟨_,rfl⟩
  have HX:Hid (Value.int .i64 (ay x.t st)=O U X):=by rw [hX]; rfl
  obtain ⟨v2,xV⟩ : ∃ v,aS x.t st=v:=⟨_,rfl⟩
  have Au:decide (0≤X)=v2:=by rw [← hX,← xV]; exact dP _ _
  rw [xV]
  clear hX xV
  cases v2
  ·go_enter Tryz.func155,Tryz.ntmps155
   have Kv:X < 0:=by have:=of_decide_eq_false Au; omega
   clear Au
   go_wp2_with fail
   generalize (w.alloc (.cells #[F x.TA x.t.length x.tc,F x.OA x.o.length x.oc,O U x.gt,O U x.sd,O U x.ms] 40))=W at b2 hA Af ⊢
   obtain ⟨p0,p1,p2,p3,p4⟩:=hA.s
   refine (aX (cG _ hA)).mono ?_
   rintro e w1 ⟨rfl,q1,rfl⟩
   go_wp2_with fail
   refine (aU HX nR (br x w.heap.size st _ (hA.at q1))).mono ?_
   rintro e w2 ⟨rfl,q2,rfl⟩
   go_wp2
   go_ret2
   show ∃ A' c',_=Ending.returned (.tuple #[F A' ([] : List Int).length c',.bool false])∧cq _ _ _ 1 A' ([] : List Int).length (bj [])∧_
   exact ⟨_,_,rfl,⟨rfl,sP,.inl ⟨rfl,rfl⟩⟩,b2.trans (q2.below.mono b2.size)⟩
  ·have HF:Hid (aT (fun r:ae=>decide (r.k=st)) ae.p (x.o.drop 0)=aT (fun r:ae=>decide (r.k=st)) ae.p x.o):=rfl
   have Kv:0≤X:=of_decide_eq_true Au
   clear Au
   go_enter Tryz.func155,Tryz.ntmps155
   go_wp2_with fail
   generalize (w.alloc (.cells #[F x.TA x.t.length x.tc,F x.OA x.o.length x.oc,O U x.gt,O U x.sd,O U x.ms] 40))=W at b2 hA Af ⊢
   obtain ⟨p0,p1,p2,p3,p4⟩:=hA.s
   have yt:=hA.r.os.el
   refine (aX (cG _ hA)).mono ?_
   rintro e w1 ⟨rfl,q1,rfl⟩
   go_wp2_with fail
   refine (aU HX nR (br x w.heap.size st _ (hA.at q1))).mono ?_
   rintro e w2 ⟨rfl,q2,rfl⟩
   obtain ⟨OA,yJ⟩ : ∃ A,x.OA=A:=⟨_,rfl⟩
   rw [yJ] at yt
   simp only [yJ] at p1
   clear yJ
   go_wp2
   go_loopw [6,19] (fun out i wr=>∃ (k:Nat) (acc:List Int),k≤x.o.length∧i=O U k∧acc.length≤k∧Hid (wr.ownsRow W.heap.size 3 1 out acc.length (bj acc))∧(Below W.heap.size W wr)∧Hid (acc++aT (fun r:ae=>decide (r.k=st)) ae.p (x.o.drop k)=aT (fun r:ae=>decide (r.k=st)) ae.p x.o)) (fun _ i _=>x.o.length - (intOf i).toNat)
   case atStart=>exact ⟨0,[],Nat.zero_le _,rfl,Nat.zero_le _,(World.ownsRow_nil _ _ _ _),q2.below,HF⟩
   case round =>
    obtain ⟨k,acc,hk,rfl,AS,HO,zc,HR⟩:=hrel
    obtain ⟨q,rfl⟩ : ∃ q:aq W.heap.size W,wr=q.val:=⟨⟨wr,zc⟩,rfl⟩
    by_cases xu:k < x.o.length
    ·obtain ⟨b,off,rfl,hb,hcell⟩:=yt oM
     obtain ⟨e0,e1,e2⟩:=hcell k xu
     have hy:=fun hv=>kL (sel:=(fun r:ae=>decide (r.k=st))) (get:=ae.p) xu hv
     have hn:=fun hv=>lV (sel:=(fun r:ae=>decide (r.k=st))) (get:=ae.p) xu hv
     obtain ⟨r,xW⟩ : ∃ r,r=x.o[k]:=⟨_,rfl⟩
     rw [← xW] at e0 e1 e2 hy hn
     clear xW hcell yt
     by_cases hz:r.k=st
     ·have hv:(r.k == st)=true:=by simp [hz]
      have HE:Hid ((acc++[r.p])++aT (fun r:ae=>decide (r.k=st)) ae.p (x.o.drop (k+1))=aT (fun r:ae=>decide (r.k=st)) ae.p x.o):=by
       have h1:=HR.out; rw [hy (jD hz)] at h1; unfold Hid; rw [List.append_assoc]; exact h1
      clear hy hn hz HR
      have Hr:=jZ (HO.out.alloc (.cells #[O U r.k,O U r.p,O U r.c] 147))
      have hbV:=q.below.alloc q.size (.cells #[O U r.k,O U r.p,O U r.c] 147)
      have hsV:=hbV.size
      clear HO
      go_wp2_with (at_builtin; refine cw (w0:=q.val.alloc (.cells #[O U r.k,O U r.p,O U r.c] 147)) rfl _ _ 100 rfl 3 (O U 0) 1 8 Tryz.underlying100 i8 rfl (by decide) (by omega) W.heap.size _ _ _ rfl Hr #[O U r.p] 1 _ rfl (by first | rfl | exact Array.size_push _) rfl (by simp [Value.oneCell']) (by omega) hsV rfl rfl rfl rfl ?_; intro v' w3 Bw hg3 xB)
      obtain ⟨A3,c3,rfl⟩:=az Bw.out
      go_wp2
      go_roundw
      case rel=>exact ⟨k+1,acc++[r.p],oM,by go_num,by simp; omega,by rw [List.length_append]; unfold bj at Bw ⊢; rw [List.map_append]; exact Bw,hbV.grown hg3 hbV.size (fun g hg=>(Hr.out.lt g hg).1),HE⟩
      case measure=>simp [intOf]; omega
     ·have hv:(r.k == st)=false:=by simp [hz]
      have HE:Hid (acc++aT (fun r:ae=>decide (r.k=st)) ae.p (x.o.drop (k+1))=aT (fun r:ae=>decide (r.k=st)) ae.p x.o):=by
       have h1:=HR.out; rw [hn (jE hz)] at h1; exact h1
      clear hy hn hz HR
      go_wp2
      go_roundw
      case rel=>exact ⟨k+1,acc,oM,by go_num,oM,jZ (HO.out.alloc _),q.below.alloc q.size _,HE⟩
      case measure=>simp [intOf]; omega
    ·have HE:Hid (acc=aT (fun r:ae=>decide (r.k=st)) ae.p x.o):=by
      have h1:=HR.out; rw [List.drop_eq_nil_of_le oM,show aT (fun r:ae=>decide (r.k=st)) ae.p [] = [] from rfl,List.append_nil] at h1; exact h1
     obtain ⟨A3,c3,rfl⟩:=az HO.out
     clear yt
     go_wp2
     go_ret2
     have e1:bC (true && true) (aT (fun r:ae=>decide (r.k=st)) ae.p x.o)=acc:=HE.out.symm
     rw [e1]
     exact ⟨_,_,rfl,(cq.of HO.out).lower b2.size,b2.trans (q.below.mono b2.size)⟩
def j0 (l:List ae) (p:Int):Int:=aW (fun o=>decide (o.p=p)) l
def dL (l:List ae):List ae→Int × Int→Int × Int
 | [],b=>b
 | r :: rest,b=>dL l rest (if b.2 < j0 l r.p ∨ j0 l r.p=b.2∧r.p < b.1 then (r.p,j0 l r.p) else b)
def iH (l:List ae):Nat→Int→Int × Int→Int × Int
 | 0,_,b=>b
 | n+1,p,b=>iH l n (p+1) (if b.2 < j0 l p then (p,j0 l p) else b)
theorem iI (f:ae→Bool):∀ (l:List ae) (s:Int),(∀ r ∈ l,1≤r.c)→s≤bI f s l
 | [],s,_=>Int.le_refl _
 | r :: l,s,h=>by
  have h1:=h r (List.mem_cons_self ..)
  have:=iI f l (if f r then s+r.c else s) (fun x hx=>h x (List.mem_cons_of_mem _ hx))
  simp only [bI]
  cases hf:f r <;> simp only [hf,if_true,if_false,Bool.false_eq_true] at this ⊢ <;> omega
theorem ku (f:ae→Bool):∀ (l:List ae) (s:Int),(∀ r ∈ l,1≤r.c)→(∃ r ∈ l,f r=true)→s < bI f s l
 | [],_,_,⟨_,h,_⟩=>by cases h
 | r :: l,s,h,⟨x,hx,hf⟩=>by
  have h1:=h r (List.mem_cons_self ..)
  have hl:∀ y ∈ l,1≤y.c:=fun y hy=>h y (List.mem_cons_of_mem _ hy)
  simp only [bI]
  cases hr:f r
  ·simp only [Bool.false_eq_true,if_false]
   rcases List.mem_cons.1 hx with rfl | hx
   ·rw [hf] at hr; cases hr
   ·exact ku f l s hl ⟨x,hx,hf⟩
  ·simp only [if_true]
   have:=iI f l (s+r.c) hl
   omega
theorem lW (f:ae→Bool):∀ (l:List ae) (s:Int),(∀ r ∈ l,f r=false)→bI f s l=s
 | [],_,_=>rfl
 | r :: l,s,h=>by
  simp only [bI]
  rw [h r (List.mem_cons_self ..)]
  exact lW f l s fun x hx=>h x (List.mem_cons_of_mem _ hx)
structure jS (l:List ae) (P:Int→Prop) (b:Int × Int):Prop where
 top:∀ p,P p→j0 l p≤b.2
 is:(b=(0,0)∧∀ p,P p→j0 l p≤0) ∨ (P b.1∧b.2=j0 l b.1∧0 < b.2∧∀ p,P p→j0 l p=b.2→b.1≤p)
theorem jS.unique {l:List ae} {P Q:Int→Prop} {a b:Int × Int} (ha:jS l P a) (hb:jS l Q b) (Gk:∀ p,0 < j0 l p→(P p ↔ Q p)):a=b:=by
 rcases ha.is with ⟨rfl,AD⟩ | ⟨BL,As,Ox,ha4⟩
 ·rcases hb.is with ⟨rfl,_⟩ | ⟨xp,xn,xB,_⟩
  ·rfl
  ·have:=AD b.1 ((Gk b.1 oM).2 xp); omega
 ·rcases hb.is with ⟨rfl,hb0⟩ | ⟨xp,xn,xB,xy⟩
  ·have:=hb0 a.1 ((Gk a.1 oM).1 BL); omega
  ·have h1:=ha.top b.1 ((Gk b.1 oM).2 xp)
   have h2:=hb.top a.1 ((Gk a.1 oM).1 BL)
   have e2:a.2=b.2:=oM
   have h3:=ha4 b.1 ((Gk b.1 oM).2 xp) oM
   have h4:=xy a.1 ((Gk a.1 oM).1 BL) oM
   have e1:a.1=b.1:=oM
   cases a; cases b; simp only at e1 e2; rw [e1,e2]
theorem jS.nil (l:List ae) {P:Int→Prop} (h:∀ p,¬ P p):jS l P (0,0):=⟨fun p hp=>absurd hp (h p),.inl ⟨rfl,fun p hp=>absurd hp (h p)⟩⟩
theorem jS.step {l:List ae} {P:Int→Prop} {b:Int × Int} (h:jS l P b) (q:Int) (hq:0 < j0 l q) :
  jS l (fun p=>P p ∨ p=q) (if b.2 < j0 l q ∨ j0 l q=b.2∧q < b.1 then (q,j0 l q) else b):=by
 split
 ·rename_i hc
  refine ⟨fun p hp=>?_,.inr ⟨.inr rfl,rfl,hq,fun p hp he=>?_⟩⟩
  ·rcases hp with hp | rfl
   ·have:=h.top p hp; simp only; omega
   ·exact Int.le_refl _
  ·simp only at he ⊢
   rcases hp with hp | rfl
   ·have h1:=h.top p hp
    rcases h.is with ⟨rfl,h0⟩ | ⟨_,_,_,h4⟩
    ·have:=h0 p hp; omega
    ·rcases hc with hc | ⟨hc,xu⟩
     ·omega
     ·have:=h4 p hp oM; omega
   ·exact Int.le_refl _
 ·rename_i hc
  have zG:j0 l q≤b.2:=oM
  have Gb:j0 l q=b.2→b.1≤q:=fun e=>by omega
  refine ⟨fun p hp=>?_,.inr ?_⟩
  ·rcases hp with hp | rfl
   ·exact h.top p hp
   ·exact zG
  ·rcases h.is with ⟨rfl,_⟩ | ⟨h1,h2,h3,h4⟩
   ·simp only at zG; omega
   ·exact ⟨.inl h1,h2,h3,fun p hp he=>by
     rcases hp with hp | rfl
     ·exact h4 p hp he
     ·exact Gb he⟩
theorem jS.next {l:List ae} {lo q:Int} {b:Int × Int} (h:jS l (fun p=>lo≤p∧p < q) b) (Bj:lo≤q) (h0:0≤j0 l q) :
  jS l (fun p=>lo≤p∧p < q+1) (if b.2 < j0 l q then (q,j0 l q) else b):=by
 have hb0:0≤b.2:=by
  rcases h.is with ⟨rfl,_⟩ | ⟨_,_,h3,_⟩
  ·exact Int.le_refl _
  ·omega
 split
 ·rename_i hc
  refine ⟨fun p hp=>?_,.inr ⟨⟨Bj,by simp only; omega⟩,rfl,by simp only; omega,fun p hp he=>?_⟩⟩
  ·rcases Int.lt_or_le p q with xu | xR
   ·have:=h.top p ⟨hp.1,xu⟩; simp only; omega
   ·obtain rfl:p=q:=oM
    exact Int.le_refl _
  ·simp only at he ⊢
   rcases Int.lt_or_le p q with xu | xR
   ·have:=h.top p ⟨hp.1,xu⟩; omega
   ·exact xR
 ·rename_i hc
  refine ⟨fun p hp=>?_, ?_⟩
  ·rcases Int.lt_or_le p q with xu | xR
   ·exact h.top p ⟨hp.1,xu⟩
   ·obtain rfl:p=q:=oM
    omega
  ·rcases h.is with ⟨rfl,hz⟩ | ⟨h1,h2,h3,h4⟩
   ·refine .inl ⟨rfl,fun p hp=>?_⟩
    rcases Int.lt_or_le p q with xu | xR
    ·exact hz p ⟨hp.1,xu⟩
    ·obtain rfl:p=q:=oM
     simp only at hc; omega
   ·refine .inr ⟨⟨h1.1,oM⟩,h2,h3,fun p hp he=>?_⟩
    rcases Int.lt_or_le p q with xu | xR
    ·exact h4 p ⟨hp.1,xu⟩ he
    ·omega
theorem kv (l:List ae) (hc:∀ r ∈ l,1≤r.c):∀ (rest:List ae) (P:Int→Prop) (b:Int × Int),(∀ r ∈ rest,r ∈ l)→jS l P b→jS l (fun p=>P p ∨ ∃ r ∈ rest,r.p=p) (dL l rest b)
 | [],P,b,_,h=>by
  have e:(fun p=>P p ∨ ∃ r ∈ ([] : List ae),r.p=p)=P:=by funext p; simp
  rw [e]; exact h
 | r :: rest,P,b,hm,h=>by
  have hr:0 < j0 l r.p:=ku _ l 0 hc ⟨r,hm r (List.mem_cons_self ..),jD rfl⟩
  have:=kv l hc rest _ _ (fun x hx=>hm x (List.mem_cons_of_mem _ hx)) (h.step r.p hr)
  have e:(fun p=>P p ∨ ∃ x ∈ r :: rest,x.p=p)=(fun p=>(P p ∨ p=r.p) ∨ ∃ x ∈ rest,x.p=p):=by
   funext p
   simp only [List.mem_cons,eq_iff_iff]
   constructor
   ·rintro (h | ⟨x,(rfl | hx),rfl⟩)
    ·exact .inl (.inl h)
    ·exact .inl (.inr rfl)
    ·exact .inr ⟨x,hx,rfl⟩
   ·rintro ((h | rfl) | ⟨x,hx,rfl⟩)
    ·exact .inl h
    ·exact .inr ⟨r,.inl rfl,rfl⟩
    ·exact .inr ⟨x,.inr hx,rfl⟩
  rw [e]; exact this
theorem na (l:List ae) (hc:∀ r ∈ l,1≤r.c) (lo:Int):∀ (n:Nat) (q:Int) (b:Int × Int),lo≤q→jS l (fun p=>lo≤p∧p < q) b→jS l (fun p=>lo≤p∧p < q+n) (iH l n q b)
 | 0,q,b,_,h=>by simpa [iH] using h
 | n+1,q,b,hq,h=>by
  have h0:0≤j0 l q:=iI _ l 0 hc
  have:=na l hc lo n (q+1) _ oM (h.next hq h0)
  have e:q+1+(n:Int)=q+((n+1:Nat):Int):=oM
  rw [e] at this
  exact this
theorem uE (l:List ae) (hc:∀ r ∈ l,1≤r.c) (hp:∀ r ∈ l,1≤r.p∧r.p≤999):iH l 999 1 (0,0)=dL l l (0,0):=by
 have h1:=na l hc 1 999 1 (0,0) (Int.le_refl _) (jS.nil l fun p h=>by omega)
 have h2:=kv l hc l (fun _=>False) (0,0) (fun _ h=>h) (jS.nil l fun p h=>h)
 refine jS.unique h1 h2 fun p Hm=>?_
 have Ad:∃ r ∈ l,r.p=p:=by
  rcases Classical.em (∃ r ∈ l,r.p=p) with h | h
  ·exact h
  ·have:j0 l p=0:=lW _ l 0 fun r hr=>jE fun e=>h ⟨r,hr,e⟩
   omega
 obtain ⟨r,hr,rfl⟩:=Ad
 have:=hp r hr
 exact ⟨fun _=>.inr ⟨r,hr,rfl⟩,fun _=>⟨this.1,oM⟩⟩
def dn (x:aN):Bool:=ap x && decide (0 < x.o.length)
def dM (x:aN):Int:=if dn x then (dL x.o x.o (0,0)).1 else 0
theorem pi {l m:List ae} {k:Nat} (h:k < m.length) (b:Int × Int):dL l (m.drop k) b=dL l (m.drop (k+1)) (if b.2 < j0 l m[k].p ∨ j0 l m[k].p=b.2∧m[k].p < b.1 then (m[k].p,j0 l m[k].p) else b):=by
 rw [List.drop_eq_getElem_cons h]; rfl
theorem sJ (x:aN) (st:Int) (w:World) (h:aQ w w.heap.size x) (ol:x.o.length≤8) (ho:∀ i (hi:i < x.o.length),x.o[i].ok x.t=true) :
  Calls xi 177 #[x.val,O U st] w fun e w'=>e=.returned (O U (j0 x.o st))∧Below w.heap.size w w':=by
 have HO:=jZ ho; clear ho
 have HG:Hid (bI (fun o=>decide (o.p=st)) 0 (x.o.drop 0)=j0 x.o st):=rfl
 go_enter Tryz.func177,Tryz.ntmps177
 go_wp2
 have hb0:=bZ w (.cells #[F x.TA x.t.length x.tc,F x.OA x.o.length x.oc,O U x.gt,O U x.sd,O U x.ms] 40)
 have hA:=iy h 40
 generalize w.alloc (.cells #[F x.TA x.t.length x.tc,F x.OA x.o.length x.oc,O U x.gt,O U x.sd,O U x.ms] 40)=W at hb0 hA ⊢
 obtain ⟨s0,s1,s2,s3,s4⟩:=hA.s
 have yt:=hA.r.os.el
 obtain ⟨OA,yJ⟩ : ∃ A,x.OA=A:=⟨_,rfl⟩
 rw [yJ] at yt
 simp only [yJ] at s1
 clear yJ
 go_loopw [5,6] (fun s i wr=>∃ (k:Nat) (u:Int),k≤x.o.length∧i=O U k∧s=O U u∧(0≤u∧u≤9999 * (k:Int))∧(∃ q:aq W.heap.size W,wr=q.val)∧Hid (bI (fun o=>decide (o.p=st)) u (x.o.drop k)=j0 x.o st)) (fun _ i _=>x.o.length - (intOf i).toNat)
 case atStart=>exact ⟨0,0,Nat.zero_le _,rfl,rfl,oM,⟨aq.start _ _,rfl⟩,HG⟩
 case round =>
  obtain ⟨j,u,hj,rfl,rfl,⟨u0,u1⟩,⟨p,rfl⟩,HU⟩:=hrel
  by_cases Dc:j < x.o.length
  ·obtain ⟨b,off,rfl,hb,hcell⟩:=yt oM
   obtain ⟨e0,e1,e2⟩:=hcell j Dc
   obtain ⟨_,_,x1,x2⟩:=ae.bounds (HO.out j Dc)
   have HS:=jZ (lC (f:=fun o:ae=>decide (o.p=st)) Dc u)
   obtain ⟨r,xW⟩ : ∃ r,r=x.o[j]:=⟨_,rfl⟩
   rw [← xW] at e0 e1 e2 HS x1 x2
   clear xW hcell yt
   by_cases hz:r.p=st
   ·have hv:(r.p == st)=true:=by simp [hz]
    have HE:Hid (bI (fun o=>decide (o.p=st)) (u+r.c) (x.o.drop (j+1))=j0 x.o st):=by
     have h1:=HU.out; rw [HS.out,if_pos (jD hz)] at h1; exact h1
    clear hz
    go_wp2
    go_roundw
    case rel=>exact ⟨j+1,u+r.c,oM,by go_num,rfl,oM,⟨p,rfl⟩,HE⟩
    case measure=>simp [intOf]; omega
   ·have hv:(r.p == st)=false:=by simp [hz]
    have HE:Hid (bI (fun o=>decide (o.p=st)) u (x.o.drop (j+1))=j0 x.o st):=by
     have h1:=HU.out; rw [HS.out,if_neg (by rw [jE hz]; exact Bool.false_ne_true)] at h1; exact h1
    clear hz
    go_wp2
    go_roundw
    case rel=>exact ⟨j+1,u,oM,by go_num,rfl,oM,⟨p,rfl⟩,HE⟩
    case measure=>simp [intOf]; omega
  ·have Cw:Hid (u=j0 x.o st):=by
    have h1:=HU.out; rw [List.drop_eq_nil_of_le oM] at h1; exact h1
   clear yt
   go_wp2
   go_ret
   exact ⟨by rw [← Cw.out]; rfl,hb0.trans (p.below.mono hb0.size)⟩
theorem ka (x:aN) (w:World) (h:aQ w w.heap.size x) :
  Calls xi 139 #[x.val] w fun e w'=>e=.returned (.tuple #[O U (dM x),.bool (dn x)])∧Below w.heap.size w w':=by
 have b1:=bZ w (.cells #[F x.TA x.t.length x.tc,F x.OA x.o.length x.oc,O U x.gt,O U x.sd,O U x.ms] 40)
 have hA:=iy h 40
 have cG:=fun W hW=>ei x W hW
 cases hg:ap x
 ·have HF:Hid (dM x=0∧dn x=false):=by unfold dM dn; rw [hg]; exact ⟨rfl,rfl⟩
  rw [hg] at cG
  clear hg
  go_enter Tryz.func139,Tryz.ntmps139
  go_wp2_with fail
  generalize w.alloc (.cells #[F x.TA x.t.length x.tc,F x.OA x.o.length x.oc,O U x.gt,O U x.sd,O U x.ms] 40)=W at b1 hA ⊢
  refine (cG _ hA.r).mono ?_
  rintro e w1 ⟨rfl,hb⟩
  go_wp2
  go_ret2
  exact ⟨by rw [HF.out.1,HF.out.2]; rfl,av b1 hb⟩
 ·have G:=bu.1 hg
  have ol:=G.ol
  have cM:=fun st W hW=>sJ x st W hW G.ol G.oall
  have Kw:Hid (ap x=true):=hg
  rw [hg] at cG
  clear hg G
  by_cases xt:0 < x.o.length
  ·have HF:Hid (dM x=(dL x.o x.o (0,0)).1∧dn x=true):=by
    have:dn x=true:=by unfold dn; rw [Kw.out,jD xt]; rfl
    unfold dM; rw [this]; exact ⟨rfl,rfl⟩
   have xw:((x.o.length:Int) == 0)=false:=by rw [beq_eq_false_iff_ne]; omega
   have Nn:Hid (dL x.o (x.o.drop 0) (0,0)=dL x.o x.o (0,0)):=rfl
   go_enter Tryz.func139,Tryz.ntmps139
   go_wp2_with fail
   generalize w.alloc (.cells #[F x.TA x.t.length x.tc,F x.OA x.o.length x.oc,O U x.gt,O U x.sd,O U x.ms] 40)=W at b1 hA ⊢
   obtain ⟨s0,s1,s2,s3,s4⟩:=hA.s
   have yt:=hA.r.os.el
   refine (aX (cG _ hA.r)).mono ?_
   rintro e w1 ⟨rfl,q1,rfl⟩
   go_wp2
   go_loopw [4,5,6] (fun bb mm i wr=>∃ (k:Nat) (b:Int × Int),k≤x.o.length∧i=O U k∧bb=O U b.1∧mm=O U b.2∧(∃ q:aq W.heap.size W,wr=q.val)∧Hid (dL x.o (x.o.drop k) b=dL x.o x.o (0,0))) (fun _ _ i _=>x.o.length - (intOf i).toNat)
   case atStart=>exact ⟨0,(0,0),Nat.zero_le _,rfl,rfl,rfl,⟨q1,rfl⟩,Nn⟩
   case round =>
    obtain ⟨k,⟨b1',b2'⟩,hk,rfl,rfl,rfl,⟨q,rfl⟩,HR⟩:=hrel
    by_cases xu:k < x.o.length
    ·obtain ⟨b,off,yJ,hb,hcell⟩:=yt oM
     obtain ⟨e0,e1,e2⟩:=hcell k xu
     have HS:=jZ (pi (l:=x.o) xu (b1',b2'))
     obtain ⟨r,xW⟩ : ∃ r,r=x.o[k]:=⟨_,rfl⟩
     rw [← xW] at e0 e1 e2 HS
     have zC:({ x with OA:=some ⟨b,off,none⟩ } : aN)=x:=by rw [← yJ]
     have DR:∀ p:aq W.heap.size W,aQ p.val p.val.heap.size { x with OA:=some ⟨b,off,none⟩ }:=fun p=>by rw [zC]; exact hA.r.at p
     have cM' : ∀ W',aQ W' W'.heap.size { x with OA:=some ⟨b,off,none⟩ }→Calls xi 177 #[aN.val { x with OA:=some ⟨b,off,none⟩ },O U r.p] W' fun e w'=>e=.returned (O U (j0 x.o r.p))∧Below W'.heap.size W' w':=fun W' Jf=>by rw [zC] at Jf ⊢; exact cM r.p W' Jf
     simp only [yJ] at s1
     clear xW hcell yt yJ zC
     simp only at HS
     go_wp2_with fail
     refine (aP nR (cM' _ (DR q))).mono ?_
     rintro e w2 ⟨rfl,q2,rfl⟩
     obtain ⟨V,hV⟩ : ∃ V,j0 x.o r.p=V:=⟨_,rfl⟩
     rw [hV] at HS
     rw [hV]
     clear hV
     by_cases h1:b2' < V
     ·rw [if_pos (Or.inl h1)] at HS
      go_wp2
      go_roundw
      case rel=>exact ⟨k+1,(r.p,V),oM,by go_num,rfl,rfl,⟨q2,rfl⟩,by have h1:=HR.out; rw [HS.out] at h1; exact h1⟩
      case measure=>simp [intOf]; omega
     ·by_cases h2:V=b2'∧r.p < b1'
      ·rw [if_pos (Or.inr h2)] at HS
       obtain ⟨h3,h4⟩:=h2
       have hv:(V == b2')=true:=by simp [h3]
       have H3:=jZ h3; clear h3
       go_wp2
       go_roundw
       case rel=>exact ⟨k+1,(r.p,V),oM,by go_num,rfl,rfl,⟨q2,rfl⟩,by have h1:=HR.out; rw [HS.out] at h1; exact h1⟩
       case measure=>simp [intOf]; omega
      ·rw [if_neg (by intro h; rcases h with h | h; exact h1 h; exact h2 h)] at HS
       by_cases h3:V=b2'
       ·have h4 : ¬ r.p < b1':=fun h=>h2 ⟨h3,h⟩
        have hv:(V == b2')=true:=by simp [h3]
        clear h2 h3
        go_wp2
        go_roundw
        case rel=>exact ⟨k+1,(b1',b2'),oM,by go_num,rfl,rfl,⟨q2,rfl⟩,by have h1:=HR.out; rw [HS.out] at h1; exact h1⟩
        case measure=>simp [intOf]; omega
       ·have hv:(V == b2')=false:=by simp [h3]
        clear h2 h3
        go_wp2
        go_roundw
        case rel=>exact ⟨k+1,(b1',b2'),oM,by go_num,rfl,rfl,⟨q2,rfl⟩,by have h1:=HR.out; rw [HS.out] at h1; exact h1⟩
        case measure=>simp [intOf]; omega
    ·have HE:Hid ((b1',b2')=dL x.o x.o (0,0)):=by
      have h1:=HR.out; rw [List.drop_eq_nil_of_le oM] at h1; exact h1
     clear yt
     go_wp2
     go_ret2
     exact ⟨by rw [HF.out.1,HF.out.2,← HE.out]; rfl,b1.trans (q.below.mono b1.size)⟩
  ·have HF:Hid (dM x=0∧dn x=false):=by
    have:dn x=false:=by unfold dn; rw [jE xt,Bool.and_false]
    unfold dM; rw [this]; exact ⟨rfl,rfl⟩
   have xw:((x.o.length:Int) == 0)=true:=by rw [beq_iff_eq]; omega
   go_enter Tryz.func139,Tryz.ntmps139
   go_wp2_with fail
   generalize w.alloc (.cells #[F x.TA x.t.length x.tc,F x.OA x.o.length x.oc,O U x.gt,O U x.sd,O U x.ms] 40)=W at b1 hA ⊢
   obtain ⟨s0,s1,s2,s3,s4⟩:=hA.s
   refine (aX (cG _ hA.r)).mono ?_
   rintro e w1 ⟨rfl,q1,rfl⟩
   go_wp2
   go_ret2
   exact ⟨by rw [HF.out.1,HF.out.2]; rfl,b1.trans (q1.below.mono b1.size)⟩
theorem fW {sel:ae→Bool} {get:ae→Int} {p:Int} : ∀ {l:List ae},p ∈ aT sel get l ↔ ∃ r ∈ l,sel r=true∧get r=p
 | []=>by simp [aT]
 | r :: l=>by
  unfold aT
  have ih:=fW (sel:=sel) (get:=get) (p:=p) (l:=l)
  split
  ·rename_i h
   rw [List.mem_cons,ih]
   constructor
   ·rintro (rfl | ⟨q,h1,h2⟩)
    ·exact ⟨r,List.mem_cons_self ..,h,rfl⟩
    ·exact ⟨q,List.mem_cons_of_mem _ h1,h2⟩
   ·rintro ⟨q,h1,h2,rfl⟩
    rcases List.mem_cons.1 h1 with rfl | h1
    ·exact .inl rfl
    ·exact .inr ⟨q,h1,h2,rfl⟩
  ·rename_i h
   rw [ih]
   constructor
   ·rintro ⟨q,h1,h2⟩; exact ⟨q,List.mem_cons_of_mem _ h1,h2⟩
   ·rintro ⟨q,h1,h2,h3⟩
    rcases List.mem_cons.1 h1 with rfl | h1
    ·exact absurd h2 h
    ·exact ⟨q,h1,h2,h3⟩
theorem sK {x:aN} (G:bK x) {r:ae} (h:r ∈ x.o):r.ok x.t=true:=by
 obtain ⟨i,hi,rfl⟩:=List.getElem_of_mem h
 exact G.oall i hi
theorem vI {x:aN} (h:dn x=true) :
  (ap x && bX (dM x) 1 999)=true∧0 < (bC (ap x && bX (dM x) 1 999) (aT (fun r:ae=>decide (r.p=dM x)) ae.k x.o)).length:=by
 have h':=h
 unfold dn at h'
 rw [Bool.and_eq_true,decide_eq_true_eq] at h'
 have G:=bu.1 h'.1
 have hc:∀ r ∈ x.o,1≤r.c:=fun r hr=>(ae.bounds (sK G hr)).2.2.1
 have B:=kv x.o hc x.o (fun _=>False) (0,0) (fun _ h=>h) (jS.nil _ fun _ h=>h)
 have hv:dM x=(dL x.o x.o (0,0)).1:=by unfold dM; rw [if_pos h]
 have key:∃ r ∈ x.o,r.p=dM x:=by
  rw [hv]
  rcases B.is with ⟨_,h0⟩ | ⟨h1,_⟩
  ·have hm:x.o[0]'h'.2 ∈ x.o:=List.getElem_mem _
   have h1:=h0 _ (.inr ⟨_,hm,rfl⟩)
   have h2:0 < j0 x.o (x.o[0]'h'.2).p:=ku _ _ 0 hc ⟨_,hm,jD rfl⟩
   omega
  ·rcases h1 with h1 | h1
   ·exact h1.elim
   ·exact h1
 obtain ⟨r,h1,h2⟩:=key
 have hb:=(ae.bounds (sK G h1)).2.1
 rw [h2] at hb
 have e:(ap x && bX (dM x) 1 999)=true:=by rw [h'.1,bV.2 hb]; rfl
 refine ⟨e, ?_⟩
 rw [e,bC,if_pos rfl]
 exact List.length_pos_of_mem (fW.2 ⟨r,h1,jD h2,rfl⟩)
end Go.Proofs.YtoeoimhemojdeaaGreatDoor
