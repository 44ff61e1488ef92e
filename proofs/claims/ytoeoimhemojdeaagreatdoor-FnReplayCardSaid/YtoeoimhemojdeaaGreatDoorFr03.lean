/- Lemmas. -/
import Derived.StillTailTactics
import Derived.Deep.RegionLawGrows
import Derived.Test.YtoeoimhemojdeaaGreatDoorFr02

set_option linter.unusedVariables false
set_option linter.unusedSimpArgs false
set_option maxHeartbeats 8000000
open Go.Value renaming int → O, slice → F, string → xh
open Go.IntKind renaming i64 → U
open Go.Proofs.Tryz renaming prog → xi

namespace Go.Proofs.YtoeoimhemojdeaaGreatDoor
open Go.RowKit
set_option maxRecDepth 100000 in
theorem sg (cf:ar→Int) (tv:Value) (g:Nat) (lb:Array Value) (eg:∀ args w,(callFunc g args).run xi w=.ok (.enter g args) w) (A:Option Addr) (c:Nat) (l:List ar) (w:World)
  (hf:∀ (t:ar) (p:aq w.heap.size w),Calls xi g (#[t.val,tv]++lb) p.val fun e w'=>e=.returned (O U (cf t))∧Below p.val.heap.size p.val w') (h:fE w w.heap.size A l) (hl:l.length≤1000000)
  (b:Nat) (hb:b≤l.length) (Bj:∀ i (h:i < l.length),i < b→cf l[i] < 0) (Cl:∀ i (h:i < l.length),b≤i→¬ cf l[i] < 0) (fd:Bool) (Cm:∀ h:b < l.length,fd=decide (cf l[b]=0)) (hfd' : b=l.length→fd=false) :
  Calls xi 212 #[F A l.length c,tv,.func (.func g) #[] lb] w fun e w'=>e=.returned (.tuple #[O U b,.bool fd])∧Below w.heap.size w w':=by
 have yQ:=h.el
 have HC:=jZ hf; clear hf
 have Jv:=jZ Bj; clear Bj
 have Jw:=jZ Cl; clear Cl
 have Jx:=jZ Cm; clear Cm
 have HFD':=jZ hfd'; clear hfd'
 go_enter Tryz.func212,Tryz.ntmps212
 go_wp2
 go_loopw [9,10] (fun s9 s10 wr=>∃ lo hi:Nat,s9=O U lo∧s10=O U hi∧lo≤b∧b≤hi∧hi≤l.length∧(∃ q:aq w.heap.size w,wr=q.val)) (fun s9 s10 _=>(intOf s10).toNat - (intOf s9).toNat)
 case atStart=>exact ⟨0,l.length,rfl,rfl,Nat.zero_le _,hb,Nat.le_refl _,aq.start _ _,rfl⟩
 case round =>
  obtain ⟨lo,hi,rfl,rfl,h1,h2,h3,⟨q,rfl⟩⟩:=hrel
  by_cases xu:lo < hi
  ·have hm:(lo+hi) / 2 < l.length:=oM
   obtain ⟨bb,off,rfl,yp,hcell⟩:=yQ oM
   obtain ⟨c0,c1⟩:=hcell ((lo+hi) / 2) hm
   have k1:cf l[(lo+hi) / 2] < 0→(lo+hi) / 2+1≤b:=fun hv=>by
    rcases Nat.lt_or_ge ((lo+hi) / 2) b with h | h
    ·exact h
    ·have:=Jw.out _ hm h; omega
   have k2 : ¬ cf l[(lo+hi) / 2] < 0→b≤(lo+hi) / 2:=fun hv=>by
    rcases Nat.lt_or_ge ((lo+hi) / 2) b with h | h
    ·have:=Jv.out _ hm h; omega
    ·exact h
   obtain ⟨x,zC⟩ : ∃ x,x=l[(lo+hi) / 2]:=⟨_,rfl⟩
   rw [← zC] at c0 c1 k1 k2
   have AE:=fun p=>HC.out x p
   clear zC hcell yQ
   by_cases hv:cf x < 0
   ·have K:=k1 hv
    clear k1 k2
    go_wp2_with fail
    refine (aP nR (AE _)).mono ?_
    rintro e w1 ⟨rfl,q1,rfl⟩
    go_wp2
    go_roundw
    case rel=>exact ⟨(lo+hi) / 2+1,hi,by go_num,rfl,K,h2,h3,⟨q1,rfl⟩⟩
    case measure=>simp [intOf]; omega
   ·have K:=k2 hv
    clear k1 k2
    go_wp2_with fail
    refine (aP nR (AE _)).mono ?_
    rintro e w1 ⟨rfl,q1,rfl⟩
    go_wp2
    go_roundw
    case rel=>exact ⟨lo,(lo+hi) / 2,rfl,by go_num,h1,K,oM,⟨q1,rfl⟩⟩
    case measure=>simp [intOf]; omega
  ·obtain rfl:hi=b:=oM
   obtain rfl:lo=hi:=oM
   by_cases Cn:lo < l.length
   ·obtain ⟨bb,off,rfl,yp,hcell⟩:=yQ oM
    obtain ⟨c0,c1⟩:=hcell lo Cn
    have HE:=jZ (Jx.out Cn)
    obtain ⟨x,zC⟩ : ∃ x,x=l[lo]:=⟨_,rfl⟩
    rw [← zC] at c0 c1 HE
    have AE:=fun p=>HC.out x p
    clear zC hcell yQ
    by_cases hv:cf x=0
    ·have hv' : (cf x == 0)=true:=by simp [hv]
     have HV:Hid (fd=true):=by unfold Hid; rw [HE.out,jD hv]
     clear hv
     go_wp2_with fail
     refine (aP nR (AE _)).mono ?_
     rintro e w1 ⟨rfl,q1,rfl⟩
     go_wp2
     go_ret2
     exact ⟨by rw [HV.out]; rfl,q1.below⟩
    ·have hv' : (cf x == 0)=false:=by simp [hv]
     have HV:Hid (fd=false):=by unfold Hid; rw [HE.out,jE hv]
     clear hv
     go_wp2_with fail
     refine (aP nR (AE _)).mono ?_
     rintro e w1 ⟨rfl,q1,rfl⟩
     go_wp2
     go_ret2
     exact ⟨by rw [HV.out]; rfl,q1.below⟩
   ·have HV:=jZ (HFD'.out oM)
    clear yQ
    go_wp2
    go_ret2
    exact ⟨by rw [HV.out]; rfl,q.below⟩
theorem eJ {l:List ar} : ∀ u ∈ l.flatMap ar.enc,u.oneCell'=true:=by
 intro u hu
 obtain ⟨r,_,hr⟩:=List.mem_flatMap.1 hu
 simp only [ar.enc,mC,mN,oF] at hr
 rcases hr with rfl | rfl <;> rfl
theorem o9 (A:Option Addr) (c:Nat) (l:List ar) (w:World) (h:fE w w.heap.size A l) (hn:l.length≤1000000) :
  Calls xi 147 #[F A l.length c] w fun e w'=>∃ A' c',e=.returned (F A' l.length c')∧w'.ownsRow w.heap.size 104 2 (F A' l.length c') l.length (l.flatMap ar.enc)∧Below w.heap.size w w':=by
 rcases A with _ | ad
 ·have h0:l.length=0:=by
   rcases Nat.eq_zero_or_pos l.length with h0 | h0
   ·exact h0
   ·obtain ⟨_,_,h1,_⟩:=h.at_ h0; cases h1
  obtain rfl:l = []:=List.eq_nil_of_length_eq_zero h0
  have hq:=fun W=>Lib.run_eql_slice_nil (P:=xi) W 37 104 none 0 c 0 0 Tryz.underlying37
  go_enter Tryz.func147,Tryz.ntmps147
  go_wp2_with fail
  go_ret
  exact ⟨none,0,rfl,⟨sP,.inl ⟨rfl,rfl⟩⟩,Below.refl _ _⟩
 ·have HO:Hid ((w.alloc (.cells #[] 104)).ownsRow w.heap.size 104 2 (F (some ⟨w.heap.size,0,none⟩) 0 0) 0 []):=dI (ai.new w 104 #[]) nR
  have b1:=bZ w (.cells #[] 104)
  have HR:=jZ (bi.below h b1)
  have hq:=fun W=>Lib.run_eql_slice_nil (P:=xi) W 37 104 (some ad) l.length c 0 0 Tryz.underlying37
  go_enter Tryz.func147,Tryz.ntmps147
  go_wp2_with (at_builtin; refine iz rfl _ _ 37 rfl 104 _ 2 16 Tryz.underlying37 dO rfl (by omega) (by omega) w.heap.size _ 0 [] rfl HO w.heap.size (some ad) l.length c (l.flatMap ar.enc) rfl HR eJ (by omega) b1.size ?_; intro v' w1 xH _ xn _)
  go_ret
  have ho:=xH.out
  rw [Nat.zero_add,List.nil_append] at ho
  obtain ⟨A',c',rfl⟩:=az ho
  exact ⟨A',c',rfl,ho,b1.trans xn⟩
set_option maxRecDepth 100000 in
theorem qL (B:Nat) (v:Value) (n:Nat) (xs:List Value) (w:World) (xH:w.ownsRow B 104 2 v n xs) (hn:n≤1000000) (r:ar) (gx cx:Nat) (hx:ai w gx 104 r.enc) (hB:B≤w.heap.size) :
  Calls xi 214 #[v,O U n,F (some ⟨gx,0,none⟩) 1 cx] w fun e w'=>∃ v',e=.returned v'∧w'.ownsRow B 104 2 v' (n+1) (xs++r.enc)∧w.grownBy w' v.ownBlock:=by
 obtain ⟨i0,y7,y8,yM,CT⟩:=info_parts dO
 obtain ⟨v',w',xZ,h2,h3,_,_⟩:=run_append_own_at (P:=xi) w B 37 37 104 i0 _ 2 16 Tryz.underlying37 y7 y8 yM CT rfl oM v n xs xH ⟨gx,0,none⟩ 1 cx r.enc rfl (fun j u hj=>by rw [cP,Nat.zero_add,hx.cell]; exact hj) (by simp [ar.enc,Value.oneCell']) (by unfold maxLen; omega) oM hB
 have HO:=jZ h2; clear h2
 have HG:=jZ h3; clear h3
 have HR:=jZ xZ; clear xZ
 obtain ⟨_,⟨rfl,rfl⟩ | ⟨g,cap,cur,rfl,hg,hh,hc,hc',_,_⟩⟩:=xH
 ·go_enter Tryz.func214,Tryz.ntmps214
  go_wp2_with (at_builtin; refine Lib.wpList_append_run _ rfl _ _ 37 37 rfl _ _ rfl rfl v' w' HR.out ?_)
  go_ret
  exact ⟨v',rfl,HO.out,HG.out⟩
 ·have Gb:cap≤9223372036854775807:=by unfold maxLen at hc'; omega
  clear hc'
  by_cases Gw:cap=n
  all_goals
   go_enter Tryz.func214,Tryz.ntmps214
   go_wp2_with (at_builtin; refine Lib.wpList_append_run _ rfl _ _ 37 37 rfl _ _ rfl rfl v' w' HR.out ?_)
   go_ret
   exact ⟨v',rfl,HO.out,HG.out⟩
set_option maxRecDepth 100000 in
theorem p9 (B g n:Nat) (cur:Array Value) (xs:List Value) (w:World) (hL:ai w g 104 cur.toList) (yD:cur.size=n * 2) (yn:cur.toList.take (n * 2)=xs) (i:Nat) (hi:i < n) (hn:n≤1000000) (r:ar) (gx cx:Nat) (hx:ai w gx 104 r.enc) (hB:B≤w.heap.size) (h1:∀ u ∈ xs,u.oneCell'=true) :
  Calls xi 214 #[F (some ⟨g,0,none⟩) n n,O U i,F (some ⟨gx,0,none⟩) 1 cx] w fun e w'=>∃ v',e=.returned v'∧w'.ownsRow B 104 2 v' (n+1) (xs.take (i * 2)++r.enc++xs.drop (i * 2))∧w.grownBy w' (some g):=by
 have mixed:xi.follows .mixedOrders=true:=kZ
 obtain ⟨i0,y7,y8,yM,CT⟩:=info_parts dO
 have zU:xs.length=n * 2:=by rw [← yn,List.length_take,Array.length_toList,yD,Nat.min_self]
 have zE:i * 2≤n * 2:=Nat.mul_le_mul_right _ oM
 have xY:(xi.info? 104).map (·.size)=some 2:=by rw [y7]; simp [yM]
 have Fd:(n:Int)+1 - (i:Int)=((n+1 - i:Nat):Int):=oM
 have BR:i+(n+1 - i)=n+1:=oM
 have hcell:∀ j u,xs[j]?=some u→w.cell? ⟨g,j,none⟩=some u:=fun j u hu=>by
  rw [hL.cell]
  rw [← yn,List.getElem?_take] at hu
  split at hu
  ·exact hu
  ·cases hu
 have hold:(Builtin.firstCells i0.size i (F (some ⟨g,0,none⟩) i n)).run xi w.drew=.ok (xs.take (i * 2)).toArray w.drew:=by
  rw [yM]
  exact run_firstCells_some w.drew 2 i ⟨g,0,none⟩ i n (xs.take (i * 2)) (by rw [List.length_take]; omega) (fun j u hj=>by
   rw [cP,Nat.zero_add]
   rw [List.getElem?_take] at hj
   split at hj
   ·exact hcell j u hj
   ·cases hj)
 have AP:=Lib.run_append_grow_zeros (P:=xi) w 37 3 37 104 i0 _ .i64 .i64 Tryz.underlying37 Tryz.underlying3 y7 y8 (some ⟨g,0,none⟩) i n (xs.take (i * 2)) hold (n+1 - i) oM oM oM oM (by rw [CT]; omega) (by rw [CT,BR]; exact growslice_fits oM oM)
 rw [BR,← Fd] at AP
 obtain ⟨G,hG⟩ : ∃ G,G=grownCap w (n+1) n 104:=⟨_,rfl⟩
 have Gx:n+1≤G:=by rw [hG]; exact grownCap_ge w _ _ _
 have Dg:G≤maxLen:=by rw [hG]; exact grownCap_le_maxLen w (n+1) n 104 (by unfold maxLen; omega)
 have Jy:G≤9223372036854775807:=by unfold maxLen at Dg; omega
 rw [← hG] at AP
 obtain ⟨Z,hZ⟩ : ∃ Z:List Value,Z=(Builtin.zeroCells (Value.agg #[O U 0,O U 0]).cells (n+1 - i)++Builtin.zeroCells (Value.agg #[O U 0,O U 0]).cells (G - (n+1))).toList:=⟨_,rfl⟩
 have Gy:Z.length=(n+1 - i) * 2+(G - (n+1)) * 2:=by rw [hZ,Array.length_toList,Array.size_append,size_zeroCells,size_zeroCells]; rfl
 obtain ⟨ROW,BS⟩ : ∃ ROW:Array Value,ROW=(xs.take (i * 2)).toArray++Builtin.zeroCells (Value.agg #[O U 0,O U 0]).cells (n+1 - i)++Builtin.zeroCells (Value.agg #[O U 0,O U 0]).cells (G - (n+1)):=⟨_,rfl⟩
 have Gz:ROW.toList=xs.take (i * 2)++Z:=by rw [BS,hZ]; simp
 rw [← BS] at AP
 clear BS hZ hG hold yD yn
 obtain ⟨W1,CU⟩ : ∃ W1,W1=w.drew.alloc (.cells ROW 104):=⟨_,rfl⟩
 rw [← CU] at AP
 have LN:ai W1 w.heap.size 104 (xs.take (i * 2)++Z):=by rw [CU,← Gz]; exact ai.new w.drew 104 ROW
 have xp:Below w.heap.size w W1:=by rw [CU]; exact ((Below.refl w.heap.size w).drew).alloc nR _
 have Jz:g < w.heap.size:=hL.lt
 have JA:gx < w.heap.size:=hx.lt
 clear CU Gz ROW
 have xt:(xs.take (i * 2)++Z).length=G * 2:=by
  rw [List.length_append,List.length_take,Gy,zU,Nat.min_eq_left zE,← Nat.add_mul,← Nat.add_mul]; congr 1; omega
 have Ms:(n+1) * 2≤G * 2:=Nat.mul_le_mul_right _ Gx
 have IE:(n+1) * 2=n * 2+2:=Nat.succ_mul n 2
 have Ed:=jZ LN; clear LN
 have Fe:Hid (i * 2+r.enc.length≤(xs.take (i * 2)++Z).length):=by unfold Hid; rw [ar.enc_len,xt]; omega
 have GA:Hid (∀ j v,r.enc[j]?=some v→W1.cell? ((⟨gx,0,none⟩ : Addr).add j)=some v):=fun j u hj=>by rw [cP,Nat.zero_add,(hx.below xp JA).cell]; exact hj
 have Ff:Hid (∀ v ∈ r.enc,v.oneCell'=true):=by unfold Hid; simp [ar.enc,Value.oneCell']
 have Cw:Hid (∀ v ∈ xs.drop (i * 2),v.oneCell'=true):=fun v hv=>h1 v (List.mem_of_mem_drop hv)
 have HC:Hid (∀ j u,xs[j]?=some u→W1.cell? ⟨g,j,none⟩=some u):=fun j u hu=>(xp.cell Jz).trans (hcell j u hu)
 have BH:Hid ((xs.take (i * 2)++Z).length=G * 2):=xt
 have Co:=jZ zU
 have BI:Hid ((xs.drop (i * 2)).length=(n - i) * 2):=by unfold Hid; rw [List.length_drop,zU,Nat.sub_mul]
 have Mu : ¬ (G=i):=oM
 have JB : ¬ (G=i+1):=oM
 have Mv : ¬ (n=i):=oM
 have Ga : ¬ ((i:Int)=(n:Int)):=oM
 have Mw:(n:Int) < (n:Int)+1:=oM
 have zY:Nat.min 1 (n+1 - i)=1:=by simp only [Nat.min_def]; split <;> omega
 have zZ:Nat.min (n - i) (n - i)=n - i:=Nat.min_self _
 have Bm:IntKind.i64.wrap ((i:Int)+1)=(i:Int)+1:=by rw [IntKind.wrap_i64]; omega
 have hb1' : (0:Int)≤(i:Int)+1:=oM
 have yw:i≤n:=oM
 have HR:=AP
 clear AP hcell hL h1 hx xt zU BR Fd xY
 go_enter Tryz.func214,Tryz.ntmps214
 go_wp2_with (first
  | (at_builtin; refine Lib.wpList_append_run _ rfl _ _ 37 3 rfl _ _ rfl rfl _ _ HR ?_)
  | (with_reducible show wpList _ _ _ (Oper.mk (some 45) _ _ _ _ _ :: _) _ _; refine dh rfl _ _ 37 rfl 104 104 2 w.heap.size (i * 2) (n+1 - i) (G - i) ⟨gx,0,none⟩ 1 cx 1 r.enc _ rfl rfl Tryz.underlying37 ?u1 ?u2 (by rw [ar.enc_len]) Ed Fe GA Ff ?_; rotate_right; intro W2 Ef ym))
 case u1=>rw [y7]; simp [yM]
 case u2=>exact zY
 have JC:w.heap.size≤W1.heap.size:=xp.size
 have JD:w.heap.size < W1.heap.size:=Ed.out.lt
 have LG2:∀ j u,xs[j]?=some u→W2.cell? ⟨g,j,none⟩=some u:=fun j u hu=>(fc ym ⟨g,j,none⟩ (by simp only; omega) (by simp only; intro e; injection e with e; omega)).trans (HC.out j u hu)
 have HL2' : Hid (ai W2.drew w.heap.size 104 (aY (xs.take (i * 2)++Z) (i * 2) r.enc)):=Ef.out.drew
 have Cp:Hid ((i+1) * 2+(xs.drop (i * 2)).length≤(aY (xs.take (i * 2)++Z) (i * 2) r.enc).length):=by
  unfold Hid
  rw [bY _ _ _ Fe.out,BH.out,BI.out,← Nat.add_mul]
  exact Nat.mul_le_mul_right _ oM
 have JE:Hid (∀ j v,(xs.drop (i * 2))[j]?=some v→W2.drew.cell? ((⟨g,i * 2,none⟩ : Addr).add j)=some v):=fun j u hj=>by
  rw [cP]; exact LG2 _ u (by rwa [List.getElem?_drop] at hj)
 clear LG2 GA
 go_still_tail 8,kZ
 change wpList _ _ _ _ _ W2.drew
 go_wp2_with (with_reducible show wpList _ _ _ (Oper.mk (some 54) _ _ _ _ _ :: _) _ _; refine dh rfl _ _ 37 rfl 104 104 2 w.heap.size ((i+1) * 2) (n - i) (G - (i+1)) ⟨g,i * 2,none⟩ (n - i) (n - i) (n - i) (xs.drop (i * 2)) _ rfl rfl Tryz.underlying37 ?v3 zZ BI.out HL2' Cp JE Cw ?_; rotate_right; intro W3 Fg hg3)
 case v3=>rw [y7]; simp [yM]
 go_ret
 have Dh:Below w.heap.size w W3:=((xp.grown ym JC (by rintro _ ⟨⟩; exact Nat.le_refl _)).drew).grown hg3 (by have:=ym.size; simp; omega) (by rintro _ ⟨⟩; exact Nat.le_refl _)
 refine ⟨_,rfl,⟨?_,.inr ⟨w.heap.size,G,(aY (aY (xs.take (i * 2)++Z) (i * 2) r.enc) ((i+1) * 2) (xs.drop (i * 2))).toArray,rfl,hB,Fg.out,Gx,Dg, ?_, ?_⟩⟩,⟨Dh.os,Dh.tape,Dh.output,Dh.size,fun j hj _=>Dh.block j hj⟩⟩
 ·rw [List.length_append,List.length_append,List.length_take,ar.enc_len,BI.out,Co.out,Nat.sub_mul]; omega
 ·rw [List.size_toArray,bY _ _ _ Cp.out,bY _ _ _ Fe.out,BH.out]
 ·show List.take _ (aY _ _ _)=_
  exact mY xs r.enc Z i 2 n (ar.enc_len r) Co.out yw (by rw [Gy,← Nat.add_mul,← Nat.add_mul]; exact Nat.mul_le_mul_right _ oM)
set_option maxRecDepth 100000 in
theorem qa (B g n cap:Nat) (cur:Array Value) (xs:List Value) (w:World) (hL:ai w g 104 cur.toList) (yD:cur.size=cap * 2) (hroom:n+1≤cap) (Di:cap≤maxLen) (yn:cur.toList.take (n * 2)=xs) (i:Nat) (hi:i < n) (hn:n≤1000000) (r:ar) (gx cx:Nat) (hx:ai w gx 104 r.enc) (xw:gx ≠ g) (hB:B≤g) (h1:∀ u ∈ xs,u.oneCell'=true) :
  Calls xi 214 #[F (some ⟨g,0,none⟩) n cap,O U i,F (some ⟨gx,0,none⟩) 1 cx] w fun e w'=>∃ v',e=.returned v'∧w'.ownsRow B 104 2 v' (n+1) (xs.take (i * 2)++r.enc++xs.drop (i * 2))∧w.grownBy w' (some g):=by
 have mixed:xi.follows .mixedOrders=true:=kZ
 obtain ⟨i0,y7,y8,yM,CT⟩:=info_parts dO
 have IE:n * 2≤cap * 2:=Nat.mul_le_mul_right _ oM
 have Fh:(n+1) * 2≤cap * 2:=Nat.mul_le_mul_right _ hroom
 have yC:cur.toList.length=cap * 2:=by rw [Array.length_toList,yD]
 have zU:xs.length=n * 2:=by rw [← yn,List.length_take,yC]; omega
 have zE:i * 2≤n * 2:=Nat.mul_le_mul_right _ oM
 have hcell:∀ j u,xs[j]?=some u→w.cell? ⟨g,j,none⟩=some u:=fun j u hu=>by
  rw [hL.cell]
  rw [← yn,List.getElem?_take] at hu
  split at hu
  ·exact hu
  ·cases hu
 have JF:∀ ob lb cb,(callFunc 233 #[F (some ⟨gx,0,none⟩) 1 cx,F (some ⟨g,ob,none⟩) lb cb]).run xi w=.ok (.value (.bool false)) w:=fun ob lb cb =>
  jn w 233 Tryz.f233 37 4 104 kZ kZ kZ kZ kZ Tryz.underlying37 2 Tryz.sizeOf104 gx g 0 ob 1 cx lb cb xw _ _ _ _ hx hL (by rw [yC]; omega)
 have hc63:cap≤9223372036854775807:=by unfold maxLen at Di; omega
 have Ed:=jZ hL
 have Ff:Hid (∀ v ∈ r.enc,v.oneCell'=true):=by unfold Hid; simp [ar.enc,Value.oneCell']
 have Cw:Hid (∀ v ∈ xs.drop (i * 2),v.oneCell'=true):=fun v hv=>h1 v (List.mem_of_mem_drop hv)
 have Co:=jZ zU
 have CV:=jZ yC
 have GB:=jZ yn
 have Fa:=jZ Di
 have BI:Hid ((xs.drop (i * 2)).length=(n - i) * 2):=by unfold Hid; rw [List.length_drop,zU,Nat.sub_mul]
 have Eg:Hid ((i+1) * 2+(xs.drop (i * 2)).length≤cur.toList.length):=by
  unfold Hid; rw [BI.out,yC,← Nat.add_mul]; exact Nat.mul_le_mul_right _ oM
 have JG:Hid (∀ j v,(xs.drop (i * 2))[j]?=some v→w.drew.cell? ((⟨g,i * 2,none⟩ : Addr).add j)=some v):=fun j u hj=>by
  rw [cP]; exact hcell _ u (by rwa [List.getElem?_drop] at hj)
 have JH:Hid (ai w.drew g 104 cur.toList):=hL.drew
 have Fi:gx < w.heap.size:=hx.lt
 have HX:=jZ hx
 have IF : ¬ ((i:Int)=(n:Int)):=oM
 have Ga : ¬ ((cap:Int) < (n:Int)+1):=oM
 have Mx : ¬ (cap=i):=oM
 have JI : ¬ (cap=i+1):=oM
 have yw:i≤n:=oM
 have JJ:i≤n+1:=oM
 have JK:(i:Int)≤(n:Int)+1:=oM
 have Bm:IntKind.i64.wrap ((i:Int)+1)=(i:Int)+1:=by rw [IntKind.wrap_i64]; omega
 have hb1' : (0:Int)≤(i:Int)+1:=oM
 have zZ:Nat.min (n+1 - i) (n - i)=n - i:=by simp only [Nat.min_def]; split <;> omega
 have zY:Nat.min 1 (n+1 - i)=1:=by simp only [Nat.min_def]; split <;> omega
 clear yC yn yD zU hL hx hcell h1 Di
 go_enter Tryz.func214,Tryz.ntmps214
 go_wp2_with (simp only [JF])
 go_still_tail 8,kZ
 change wpList _ _ _ _ _ w.drew
 go_wp2_with (first
  | (with_reducible show wpList _ _ _ (Oper.mk (some 77) _ _ _ _ _ :: _) _ _; refine dh rfl _ _ 37 rfl 104 104 2 g ((i+1) * 2) (n - i) (cap - (i+1)) ⟨g,i * 2,none⟩ (n+1 - i) (cap - i) (n - i) (xs.drop (i * 2)) _ rfl rfl Tryz.underlying37 ?v3 zZ BI.out JH Eg JG Cw ?_; rotate_right; intro W2 Ef ym)
  | (with_reducible show wpList _ _ _ (Oper.mk (some 82) _ _ _ _ _ :: _) _ _; refine dh rfl _ _ 37 rfl 104 104 2 g (i * 2) (n+1 - i) (cap - i) ⟨gx,0,none⟩ 1 cx 1 r.enc _ rfl rfl Tryz.underlying37 ?v4 zY ?v5 Ef ?v6 ?v7 Ff ?_; rotate_right; intro W3 Fg hg3))
 case v3=>rw [y7]; simp [yM]
 case v4=>rw [y7]; simp [yM]
 case v5=>rw [ar.enc_len]
 case v6=>unfold Hid; rw [bY _ _ _ Eg.out,CV.out,ar.enc_len]; omega
 case v7=>exact fun j u hj=>by rw [cP,Nat.zero_add,(fc ym ⟨gx,j,none⟩ Fi (by simp only; intro e; injection e with e; exact xw e)),HX.out.drew.cell]; exact hj
 have JL:Hid (i * 2+r.enc.length≤(aY cur.toList ((i+1) * 2) (xs.drop (i * 2))).length):=by unfold Hid; rw [bY _ _ _ Eg.out,CV.out,ar.enc_len]; omega
 go_ret
 have e1:(i+1) * 2=i * 2+2:=Nat.succ_mul i 2
 refine ⟨_,rfl,⟨?_,.inr ⟨g,cap,(aY (aY cur.toList ((i+1) * 2) (xs.drop (i * 2))) (i * 2) r.enc).toArray,rfl,hB,Fg.out,hroom,Fa.out, ?_, ?_⟩⟩, ?_⟩
 ·rw [List.length_append,List.length_append,List.length_take,ar.enc_len,BI.out,Co.out,Nat.sub_mul]; omega
 ·rw [List.size_toArray,bY _ _ _ JL.out,bY _ _ _ Eg.out,CV.out]
 ·show List.take _ (aY _ _ _)=_
  rw [e1]
  exact kW cur.toList xs r.enc i 2 n (ar.enc_len r) Co.out yw GB.out (by rw [CV.out]; exact Fh)
 ·exact ⟨hg3.os.trans ym.os,hg3.tape.trans ym.tape,hg3.output.trans ym.output,jT ym.size hg3.size,fun j hj hq=>(hg3.block j (jL hj ym.size) hq).trans (ym.block j hj hq)⟩
theorem qM (B:Nat) (v:Value) (n:Nat) (xs:List Value) (w:World) (xH:w.ownsRow B 104 2 v n xs) (hn:n≤1000000) (i:Nat) (hi:i≤n) (r:ar) (gx cx:Nat) (hx:ai w gx 104 r.enc) (xw:v.ownBlock ≠ some gx) (hB:B≤w.heap.size) (h1:∀ u ∈ xs,u.oneCell'=true) :
  Calls xi 214 #[v,O U i,F (some ⟨gx,0,none⟩) 1 cx] w fun e w'=>∃ v',e=.returned v'∧w'.ownsRow B 104 2 v' (n+1) (xs.take (i * 2)++r.enc++xs.drop (i * 2))∧w.grownBy w' v.ownBlock:=by
 rcases Nat.lt_or_ge i n with xu | xR
 ·obtain ⟨hl,⟨rfl,rfl⟩ | ⟨g,cap,cur,rfl,hg,hh,hc,hc',yD,GC⟩⟩:=xH
  ·omega
  ·by_cases Gw:cap=n
   ·subst Gw
    exact p9 B g cap cur xs w hh yD GC i xu hn r gx cx hx hB h1
   ·exact qa B g n cap cur xs w hh yD oM hc' GC i xu hn r gx cx hx (fun e=>xw (by rw [e]; rfl)) hg h1
 ·have e:i=n:=oM
  subst e
  have hl:=xH.1
  rw [List.take_of_length_le oM,List.drop_eq_nil_of_le oM,List.append_nil]
  exact qL B v i xs w xH hn r gx cx hx hB
set_option maxRecDepth 100000 in
theorem lJ (cf:ae→Int) (tg:ae) (g:Nat) (lb:Array Value) (eg:∀ args w,(callFunc g args).run xi w=.ok (.enter g args) w) (A:Option Addr) (c:Nat) (l:List ae) (w:World)
  (hf:∀ (t:ae) (p:aq w.heap.size w),Calls xi g (#[t.val,tg.val]++lb) p.val fun e w'=>e=.returned (O U (cf t))∧Below p.val.heap.size p.val w') (h:ee w w.heap.size A l) (hl:l.length≤1000000)
  (b:Nat) (hb:b≤l.length) (Bj:∀ i (h:i < l.length),i < b→cf l[i] < 0) (Cl:∀ i (h:i < l.length),b≤i→¬ cf l[i] < 0) (fd:Bool) (Cm:∀ h:b < l.length,fd=decide (cf l[b]=0)) (hfd' : b=l.length→fd=false) :
  Calls xi 235 #[F A l.length c,tg.val,.func (.func g) #[] lb] w fun e w'=>e=.returned (.tuple #[O U b,.bool fd])∧Below w.heap.size w w':=by
 have b0:=bZ w (.cells #[O U tg.k,O U tg.p,O U tg.c] 147)
 have Dj:=ai.new w 147 #[O U tg.k,O U tg.p,O U tg.c]
 have HC:=jZ hf; clear hf
 have Jv:=jZ Bj; clear Bj
 have Jw:=jZ Cl; clear Cl
 have Jx:=jZ Cm; clear Cm
 have HFD':=jZ hfd'; clear hfd'
 go_enter Tryz.func235,Tryz.ntmps235
 go_wp2
 have h0:=bi.up h b0 nR
 generalize w.alloc (.cells #[O U tg.k,O U tg.p,O U tg.c] 147)=W at b0 Dj h0 ⊢
 have yQ:=(show ee W W.heap.size A l from h0).el
 obtain ⟨d0,d1,d2⟩:=f9.of (r:=tg) Dj
 go_loopw [9,10] (fun s9 s10 wr=>∃ lo hi:Nat,s9=O U lo∧s10=O U hi∧lo≤b∧b≤hi∧hi≤l.length∧(∃ q:aq W.heap.size W,wr=q.val)) (fun s9 s10 _=>(intOf s10).toNat - (intOf s9).toNat)
 case atStart=>exact ⟨0,l.length,rfl,rfl,Nat.zero_le _,hb,Nat.le_refl _,aq.start _ _,rfl⟩
 case round =>
  obtain ⟨lo,hi,rfl,rfl,h1,h2,h3,⟨q,rfl⟩⟩:=hrel
  by_cases xu:lo < hi
  ·have hm:(lo+hi) / 2 < l.length:=oM
   obtain ⟨bb,off,rfl,yp,hcell⟩:=yQ oM
   obtain ⟨c0,c1,c2⟩:=hcell ((lo+hi) / 2) hm
   have k1:cf l[(lo+hi) / 2] < 0→(lo+hi) / 2+1≤b:=fun hv=>by
    rcases Nat.lt_or_ge ((lo+hi) / 2) b with h | h
    ·exact h
    ·have:=Jw.out _ hm h; omega
   have k2 : ¬ cf l[(lo+hi) / 2] < 0→b≤(lo+hi) / 2:=fun hv=>by
    rcases Nat.lt_or_ge ((lo+hi) / 2) b with h | h
    ·have:=Jv.out _ hm h; omega
    ·exact h
   obtain ⟨x,zC⟩ : ∃ x,x=l[(lo+hi) / 2]:=⟨_,rfl⟩
   rw [← zC] at c0 c1 c2 k1 k2
   have AE:=fun p:aq W.heap.size W=>HC.out x ⟨p.val,b0.trans (p.below.mono b0.size)⟩
   obtain ⟨V,hV⟩ : ∃ V,cf x=V:=⟨_,rfl⟩
   have GD:Hid (Value.int .i64 (cf x)=O U V):=by rw [hV]; rfl
   rw [hV] at k1 k2
   have hX:=jZ hV; clear hV
   clear zC hcell yQ
   by_cases hv:V < 0
   ·have K:=k1 hv
    clear k1 k2
    go_wp2
    refine ba _ kZ kZ ?_
    repeat (any_goals (first | go_big_quiet_step ((with_reducible refine aU GD nR (AE _))) | (refine wpQuiet_step (fun K hK=>?_); go_simp; split <;> (refine hK _ ?_; clear hK K))))
    all_goals (refine wpQuiet_nil ?_; rintro _ ⟨q1,rfl⟩)
    all_goals go_wp2
    go_roundw
    case rel=>exact ⟨(lo+hi) / 2+1,hi,by go_num,rfl,K,h2,h3,⟨q1,rfl⟩⟩
    case measure=>simp [intOf]; omega
   ·have K:=k2 hv
    clear k1 k2
    go_wp2
    refine ba _ kZ kZ ?_
    repeat (any_goals (first | go_big_quiet_step ((with_reducible refine aU GD nR (AE _))) | (refine wpQuiet_step (fun K hK=>?_); go_simp; split <;> (refine hK _ ?_; clear hK K))))
    all_goals (refine wpQuiet_nil ?_; rintro _ ⟨q1,rfl⟩)
    all_goals go_wp2
    go_roundw
    case rel=>exact ⟨lo,(lo+hi) / 2,rfl,by go_num,h1,K,oM,⟨q1,rfl⟩⟩
    case measure=>simp [intOf]; omega
  ·obtain rfl:hi=b:=oM
   obtain rfl:lo=hi:=oM
   by_cases Cn:lo < l.length
   ·obtain ⟨bb,off,rfl,yp,hcell⟩:=yQ oM
    obtain ⟨c0,c1,c2⟩:=hcell lo Cn
    have HE:=jZ (Jx.out Cn)
    obtain ⟨x,zC⟩ : ∃ x,x=l[lo]:=⟨_,rfl⟩
    rw [← zC] at c0 c1 c2 HE
    have AE:=fun p:aq W.heap.size W=>HC.out x ⟨p.val,b0.trans (p.below.mono b0.size)⟩
    obtain ⟨V,hV⟩ : ∃ V,cf x=V:=⟨_,rfl⟩
    have GD:Hid (Value.int .i64 (cf x)=O U V):=by rw [hV]; rfl
    rw [hV] at HE
    have hX:=jZ hV; clear hV
    clear zC hcell yQ
    by_cases hv:V=0
    ·have hv' : (V == 0)=true:=by simp [hv]
     have HV:Hid (fd=true):=by unfold Hid; rw [HE.out,jD hv]
     clear hv
     go_wp2
     refine ba _ kZ kZ ?_
     repeat (any_goals (first | go_big_quiet_step ((with_reducible refine aU GD nR (AE _))) | (refine wpQuiet_step (fun K hK=>?_); go_simp; split <;> (refine hK _ ?_; clear hK K))))
     all_goals (refine wpQuiet_nil ?_; rintro _ ⟨q1,rfl⟩)
     all_goals go_wp2
     go_ret2
     exact ⟨by rw [HV.out]; rfl,b0.trans (q1.below.mono b0.size)⟩
    ·have hv' : (V == 0)=false:=by simp [hv]
     have HV:Hid (fd=false):=by unfold Hid; rw [HE.out,jE hv]
     clear hv
     go_wp2
     refine ba _ kZ kZ ?_
     repeat (any_goals (first | go_big_quiet_step ((with_reducible refine aU GD nR (AE _))) | (refine wpQuiet_step (fun K hK=>?_); go_simp; split <;> (refine hK _ ?_; clear hK K))))
     all_goals (refine wpQuiet_nil ?_; rintro _ ⟨q1,rfl⟩)
     all_goals go_wp2
     go_ret2
     exact ⟨by rw [HV.out]; rfl,b0.trans (q1.below.mono b0.size)⟩
   ·have HV:=jZ (HFD'.out oM)
    clear yQ
    have hd:decide (lo < l.length)=false:=jE Cn
    go_wp2
    refine ba _ kZ kZ ?_
    repeat (any_goals (first | go_big_quiet_step ((fail)) | (refine wpQuiet_step (fun K hK=>?_); go_simp; split <;> (refine hK _ ?_; clear hK K))))
    all_goals (refine wpQuiet_nil ?_; rintro _ ⟨q1,rfl⟩)
    all_goals go_wp2
    go_ret2
    exact ⟨by rw [HV.out]; rfl,b0.trans (q1.below.mono b0.size)⟩
theorem fw {l:List ae} : ∀ u ∈ l.flatMap ae.enc,u.oneCell'=true:=by
 intro u hu
 obtain ⟨r,_,hr⟩:=List.mem_flatMap.1 hu
 simp only [ae.enc,mC,mN,oF] at hr
 rcases hr with rfl | rfl | rfl <;> rfl
theorem nr (A:Option Addr) (c:Nat) (l:List ae) (w:World) (h:ee w w.heap.size A l) (hn:l.length≤1000000) :
  Calls xi 148 #[F A l.length c] w fun e w'=>∃ A' c',e=.returned (F A' l.length c')∧w'.ownsRow w.heap.size 147 3 (F A' l.length c') l.length (l.flatMap ae.enc)∧Below w.heap.size w w':=by
 rcases A with _ | ad
 ·have h0:l.length=0:=by
   rcases Nat.eq_zero_or_pos l.length with h0 | h0
   ·exact h0
   ·obtain ⟨_,_,h1,_⟩:=h.at_ h0; cases h1
  obtain rfl:l = []:=List.eq_nil_of_length_eq_zero h0
  have hq:=fun W=>Lib.run_eql_slice_nil (P:=xi) W 38 147 none 0 c 0 0 Tryz.underlying38
  go_enter Tryz.func148,Tryz.ntmps148
  go_wp2_with fail
  go_ret
  exact ⟨none,0,rfl,⟨sP,.inl ⟨rfl,rfl⟩⟩,Below.refl _ _⟩
 ·have HO:Hid ((w.alloc (.cells #[] 147)).ownsRow w.heap.size 147 3 (F (some ⟨w.heap.size,0,none⟩) 0 0) 0 []):=dI (ai.new w 147 #[]) nR
  have b1:=bZ w (.cells #[] 147)
  have HR:=jZ (bi.below h b1)
  have hq:=fun W=>Lib.run_eql_slice_nil (P:=xi) W 38 147 (some ad) l.length c 0 0 Tryz.underlying38
  go_enter Tryz.func148,Tryz.ntmps148
  go_wp2_with (at_builtin; refine iz rfl _ _ 38 rfl 147 _ 3 24 Tryz.underlying38 ew rfl (by omega) (by omega) w.heap.size _ 0 [] rfl HO w.heap.size (some ad) l.length c (l.flatMap ae.enc) rfl HR fw (by omega) b1.size ?_; intro v' w1 xH _ xn _)
  go_ret
  have ho:=xH.out
  rw [Nat.zero_add,List.nil_append] at ho
  obtain ⟨A',c',rfl⟩:=az ho
  exact ⟨A',c',rfl,ho,b1.trans xn⟩
set_option maxRecDepth 100000 in
theorem pa (B:Nat) (v:Value) (n:Nat) (xs:List Value) (w:World) (xH:w.ownsRow B 147 3 v n xs) (hn:n≤1000000) (r:ae) (gx cx:Nat) (hx:ai w gx 147 r.enc) (hB:B≤w.heap.size) :
  Calls xi 236 #[v,O U n,F (some ⟨gx,0,none⟩) 1 cx] w fun e w'=>∃ v',e=.returned v'∧w'.ownsRow B 147 3 v' (n+1) (xs++r.enc)∧w.grownBy w' v.ownBlock:=by
 obtain ⟨i0,y7,y8,yM,CT⟩:=info_parts ew
 obtain ⟨v',w',xZ,h2,h3,_,_⟩:=run_append_own_at (P:=xi) w B 38 38 147 i0 _ 3 24 Tryz.underlying38 y7 y8 yM CT rfl oM v n xs xH ⟨gx,0,none⟩ 1 cx r.enc rfl (fun j u hj=>by rw [cP,Nat.zero_add,hx.cell]; exact hj) (by simp [ae.enc,Value.oneCell']) (by unfold maxLen; omega) oM hB
 have HO:=jZ h2; clear h2
 have HG:=jZ h3; clear h3
 have HR:=jZ xZ; clear xZ
 obtain ⟨_,⟨rfl,rfl⟩ | ⟨g,cap,cur,rfl,hg,hh,hc,hc',_,_⟩⟩:=xH
 ·go_enter Tryz.func236,Tryz.ntmps236
  go_wp2_with (at_builtin; refine Lib.wpList_append_run _ rfl _ _ 38 38 rfl _ _ rfl rfl v' w' HR.out ?_)
  go_ret
  exact ⟨v',rfl,HO.out,HG.out⟩
 ·have Gb:cap≤9223372036854775807:=by unfold maxLen at hc'; omega
  clear hc'
  by_cases Gw:cap=n
  all_goals
   go_enter Tryz.func236,Tryz.ntmps236
   go_wp2_with (at_builtin; refine Lib.wpList_append_run _ rfl _ _ 38 38 rfl _ _ rfl rfl v' w' HR.out ?_)
   go_ret
   exact ⟨v',rfl,HO.out,HG.out⟩
set_option maxRecDepth 100000 in
theorem nY (B g n:Nat) (cur:Array Value) (xs:List Value) (w:World) (hL:ai w g 147 cur.toList) (yD:cur.size=n * 3) (yn:cur.toList.take (n * 3)=xs) (i:Nat) (hi:i < n) (hn:n≤1000000) (r:ae) (gx cx:Nat) (hx:ai w gx 147 r.enc) (hB:B≤w.heap.size) (h1:∀ u ∈ xs,u.oneCell'=true) :
  Calls xi 236 #[F (some ⟨g,0,none⟩) n n,O U i,F (some ⟨gx,0,none⟩) 1 cx] w fun e w'=>∃ v',e=.returned v'∧w'.ownsRow B 147 3 v' (n+1) (xs.take (i * 3)++r.enc++xs.drop (i * 3))∧w.grownBy w' (some g):=by
 have mixed:xi.follows .mixedOrders=true:=kZ
 obtain ⟨i0,y7,y8,yM,CT⟩:=info_parts ew
 have zU:xs.length=n * 3:=by rw [← yn,List.length_take,Array.length_toList,yD,Nat.min_self]
 have zE:i * 3≤n * 3:=Nat.mul_le_mul_right _ oM
 have xY:(xi.info? 147).map (·.size)=some 3:=by rw [y7]; simp [yM]
 have Fd:(n:Int)+1 - (i:Int)=((n+1 - i:Nat):Int):=oM
 have BR:i+(n+1 - i)=n+1:=oM
 have hcell:∀ j u,xs[j]?=some u→w.cell? ⟨g,j,none⟩=some u:=fun j u hu=>by
  rw [hL.cell]
  rw [← yn,List.getElem?_take] at hu
  split at hu
  ·exact hu
  ·cases hu
 have hold:(Builtin.firstCells i0.size i (F (some ⟨g,0,none⟩) i n)).run xi w.drew=.ok (xs.take (i * 3)).toArray w.drew:=by
  rw [yM]
  exact run_firstCells_some w.drew 3 i ⟨g,0,none⟩ i n (xs.take (i * 3)) (by rw [List.length_take]; omega) (fun j u hj=>by
   rw [cP,Nat.zero_add]
   rw [List.getElem?_take] at hj
   split at hj
   ·exact hcell j u hj
   ·cases hj)
 have AP:=Lib.run_append_grow_zeros (P:=xi) w 38 3 38 147 i0 _ .i64 .i64 Tryz.underlying38 Tryz.underlying3 y7 y8 (some ⟨g,0,none⟩) i n (xs.take (i * 3)) hold (n+1 - i) oM oM oM oM (by rw [CT]; omega) (by rw [CT,BR]; exact growslice_fits oM oM)
 rw [BR,← Fd] at AP
 obtain ⟨G,hG⟩ : ∃ G,G=grownCap w (n+1) n 147:=⟨_,rfl⟩
 have Gx:n+1≤G:=by rw [hG]; exact grownCap_ge w _ _ _
 have Dg:G≤maxLen:=by rw [hG]; exact grownCap_le_maxLen w (n+1) n 147 (by unfold maxLen; omega)
 have Jy:G≤9223372036854775807:=by unfold maxLen at Dg; omega
 rw [← hG] at AP
 obtain ⟨Z,hZ⟩ : ∃ Z:List Value,Z=(Builtin.zeroCells (Value.agg #[O U 0,O U 0,O U 0]).cells (n+1 - i)++Builtin.zeroCells (Value.agg #[O U 0,O U 0,O U 0]).cells (G - (n+1))).toList:=⟨_,rfl⟩
 have Gy:Z.length=(n+1 - i) * 3+(G - (n+1)) * 3:=by rw [hZ,Array.length_toList,Array.size_append,size_zeroCells,size_zeroCells]; rfl
 obtain ⟨ROW,BS⟩ : ∃ ROW:Array Value,ROW=(xs.take (i * 3)).toArray++Builtin.zeroCells (Value.agg #[O U 0,O U 0,O U 0]).cells (n+1 - i)++Builtin.zeroCells (Value.agg #[O U 0,O U 0,O U 0]).cells (G - (n+1)):=⟨_,rfl⟩
 have Gz:ROW.toList=xs.take (i * 3)++Z:=by rw [BS,hZ]; simp
 rw [← BS] at AP
 clear BS hZ hG hold yD yn
 obtain ⟨W1,CU⟩ : ∃ W1,W1=w.drew.alloc (.cells ROW 147):=⟨_,rfl⟩
 rw [← CU] at AP
 have LN:ai W1 w.heap.size 147 (xs.take (i * 3)++Z):=by rw [CU,← Gz]; exact ai.new w.drew 147 ROW
 have xp:Below w.heap.size w W1:=by rw [CU]; exact ((Below.refl w.heap.size w).drew).alloc nR _
 have Jz:g < w.heap.size:=hL.lt
 have JA:gx < w.heap.size:=hx.lt
 clear CU Gz ROW
 have xt:(xs.take (i * 3)++Z).length=G * 3:=by
  rw [List.length_append,List.length_take,Gy,zU,Nat.min_eq_left zE,← Nat.add_mul,← Nat.add_mul]; congr 1; omega
 have Ms:(n+1) * 3≤G * 3:=Nat.mul_le_mul_right _ Gx
 have IE:(n+1) * 3=n * 3+3:=Nat.succ_mul n 3
 have Ed:=jZ LN; clear LN
 have Fe:Hid (i * 3+r.enc.length≤(xs.take (i * 3)++Z).length):=by unfold Hid; rw [ae.enc_len,xt]; omega
 have GA:Hid (∀ j v,r.enc[j]?=some v→W1.cell? ((⟨gx,0,none⟩ : Addr).add j)=some v):=fun j u hj=>by rw [cP,Nat.zero_add,(hx.below xp JA).cell]; exact hj
 have Ff:Hid (∀ v ∈ r.enc,v.oneCell'=true):=by unfold Hid; simp [ae.enc,Value.oneCell']
 have Cw:Hid (∀ v ∈ xs.drop (i * 3),v.oneCell'=true):=fun v hv=>h1 v (List.mem_of_mem_drop hv)
 have HC:Hid (∀ j u,xs[j]?=some u→W1.cell? ⟨g,j,none⟩=some u):=fun j u hu=>(xp.cell Jz).trans (hcell j u hu)
 have BH:Hid ((xs.take (i * 3)++Z).length=G * 3):=xt
 have Co:=jZ zU
 have BI:Hid ((xs.drop (i * 3)).length=(n - i) * 3):=by unfold Hid; rw [List.length_drop,zU,Nat.sub_mul]
 have Mu : ¬ (G=i):=oM
 have JB : ¬ (G=i+1):=oM
 have Mv : ¬ (n=i):=oM
 have Ga : ¬ ((i:Int)=(n:Int)):=oM
 have Mw:(n:Int) < (n:Int)+1:=oM
 have zY:Nat.min 1 (n+1 - i)=1:=by simp only [Nat.min_def]; split <;> omega
 have zZ:Nat.min (n - i) (n - i)=n - i:=Nat.min_self _
 have Bm:IntKind.i64.wrap ((i:Int)+1)=(i:Int)+1:=by rw [IntKind.wrap_i64]; omega
 have hb1' : (0:Int)≤(i:Int)+1:=oM
 have yw:i≤n:=oM
 have HR:=AP
 clear AP hcell hL h1 hx xt zU BR Fd xY
 go_enter Tryz.func236,Tryz.ntmps236
 go_wp2_with (first
  | (at_builtin; refine Lib.wpList_append_run _ rfl _ _ 38 3 rfl _ _ rfl rfl _ _ HR ?_)
  | (with_reducible show wpList _ _ _ (Oper.mk (some 45) _ _ _ _ _ :: _) _ _; refine dh rfl _ _ 38 rfl 147 147 3 w.heap.size (i * 3) (n+1 - i) (G - i) ⟨gx,0,none⟩ 1 cx 1 r.enc _ rfl rfl Tryz.underlying38 ?u1 ?u2 (by rw [ae.enc_len]) Ed Fe GA Ff ?_; rotate_right; intro W2 Ef ym))
 case u1=>rw [y7]; simp [yM]
 case u2=>exact zY
 have JC:w.heap.size≤W1.heap.size:=xp.size
 have JD:w.heap.size < W1.heap.size:=Ed.out.lt
 have LG2:∀ j u,xs[j]?=some u→W2.cell? ⟨g,j,none⟩=some u:=fun j u hu=>(fc ym ⟨g,j,none⟩ (by simp only; omega) (by simp only; intro e; injection e with e; omega)).trans (HC.out j u hu)
 have HL2' : Hid (ai W2.drew w.heap.size 147 (aY (xs.take (i * 3)++Z) (i * 3) r.enc)):=Ef.out.drew
 have Cp:Hid ((i+1) * 3+(xs.drop (i * 3)).length≤(aY (xs.take (i * 3)++Z) (i * 3) r.enc).length):=by
  unfold Hid
  rw [bY _ _ _ Fe.out,BH.out,BI.out,← Nat.add_mul]
  exact Nat.mul_le_mul_right _ oM
 have JE:Hid (∀ j v,(xs.drop (i * 3))[j]?=some v→W2.drew.cell? ((⟨g,i * 3,none⟩ : Addr).add j)=some v):=fun j u hj=>by
  rw [cP]; exact LG2 _ u (by rwa [List.getElem?_drop] at hj)
 clear LG2 GA
 go_still_tail 8,kZ
 change wpList _ _ _ _ _ W2.drew
 go_wp2_with (with_reducible show wpList _ _ _ (Oper.mk (some 54) _ _ _ _ _ :: _) _ _; refine dh rfl _ _ 38 rfl 147 147 3 w.heap.size ((i+1) * 3) (n - i) (G - (i+1)) ⟨g,i * 3,none⟩ (n - i) (n - i) (n - i) (xs.drop (i * 3)) _ rfl rfl Tryz.underlying38 ?v3 zZ BI.out HL2' Cp JE Cw ?_; rotate_right; intro W3 Fg hg3)
 case v3=>rw [y7]; simp [yM]
 go_ret
 have Dh:Below w.heap.size w W3:=((xp.grown ym JC (by rintro _ ⟨⟩; exact Nat.le_refl _)).drew).grown hg3 (by have:=ym.size; simp; omega) (by rintro _ ⟨⟩; exact Nat.le_refl _)
 refine ⟨_,rfl,⟨?_,.inr ⟨w.heap.size,G,(aY (aY (xs.take (i * 3)++Z) (i * 3) r.enc) ((i+1) * 3) (xs.drop (i * 3))).toArray,rfl,hB,Fg.out,Gx,Dg, ?_, ?_⟩⟩,⟨Dh.os,Dh.tape,Dh.output,Dh.size,fun j hj _=>Dh.block j hj⟩⟩
 ·rw [List.length_append,List.length_append,List.length_take,ae.enc_len,BI.out,Co.out,Nat.sub_mul]; omega
 ·rw [List.size_toArray,bY _ _ _ Cp.out,bY _ _ _ Fe.out,BH.out]
 ·show List.take _ (aY _ _ _)=_
  exact mY xs r.enc Z i 3 n (ae.enc_len r) Co.out yw (by rw [Gy,← Nat.add_mul,← Nat.add_mul]; exact Nat.mul_le_mul_right _ oM)
set_option maxRecDepth 100000 in
theorem nZ (B g n cap:Nat) (cur:Array Value) (xs:List Value) (w:World) (hL:ai w g 147 cur.toList) (yD:cur.size=cap * 3) (hroom:n+1≤cap) (Di:cap≤maxLen) (yn:cur.toList.take (n * 3)=xs) (i:Nat) (hi:i < n) (hn:n≤1000000) (r:ae) (gx cx:Nat) (hx:ai w gx 147 r.enc) (xw:gx ≠ g) (hB:B≤g) (h1:∀ u ∈ xs,u.oneCell'=true) :
  Calls xi 236 #[F (some ⟨g,0,none⟩) n cap,O U i,F (some ⟨gx,0,none⟩) 1 cx] w fun e w'=>∃ v',e=.returned v'∧w'.ownsRow B 147 3 v' (n+1) (xs.take (i * 3)++r.enc++xs.drop (i * 3))∧w.grownBy w' (some g):=by
 have mixed:xi.follows .mixedOrders=true:=kZ
 obtain ⟨i0,y7,y8,yM,CT⟩:=info_parts ew
 have IE:n * 3≤cap * 3:=Nat.mul_le_mul_right _ oM
 have Fh:(n+1) * 3≤cap * 3:=Nat.mul_le_mul_right _ hroom
 have yC:cur.toList.length=cap * 3:=by rw [Array.length_toList,yD]
 have zU:xs.length=n * 3:=by rw [← yn,List.length_take,yC]; omega
 have zE:i * 3≤n * 3:=Nat.mul_le_mul_right _ oM
 have hcell:∀ j u,xs[j]?=some u→w.cell? ⟨g,j,none⟩=some u:=fun j u hu=>by
  rw [hL.cell]
  rw [← yn,List.getElem?_take] at hu
  split at hu
  ·exact hu
  ·cases hu
 have JF:∀ ob lb cb,(callFunc 246 #[F (some ⟨gx,0,none⟩) 1 cx,F (some ⟨g,ob,none⟩) lb cb]).run xi w=.ok (.value (.bool false)) w:=fun ob lb cb =>
  jn w 246 Tryz.f246 38 4 147 kZ kZ kZ kZ kZ Tryz.underlying38 3 Tryz.sizeOf147 gx g 0 ob 1 cx lb cb xw _ _ _ _ hx hL (by rw [yC]; omega)
 have hc63:cap≤9223372036854775807:=by unfold maxLen at Di; omega
 have Ed:=jZ hL
 have Ff:Hid (∀ v ∈ r.enc,v.oneCell'=true):=by unfold Hid; simp [ae.enc,Value.oneCell']
 have Cw:Hid (∀ v ∈ xs.drop (i * 3),v.oneCell'=true):=fun v hv=>h1 v (List.mem_of_mem_drop hv)
 have Co:=jZ zU
 have CV:=jZ yC
 have GB:=jZ yn
 have Fa:=jZ Di
 have BI:Hid ((xs.drop (i * 3)).length=(n - i) * 3):=by unfold Hid; rw [List.length_drop,zU,Nat.sub_mul]
 have Eg:Hid ((i+1) * 3+(xs.drop (i * 3)).length≤cur.toList.length):=by
  unfold Hid; rw [BI.out,yC,← Nat.add_mul]; exact Nat.mul_le_mul_right _ oM
 have JG:Hid (∀ j v,(xs.drop (i * 3))[j]?=some v→w.drew.cell? ((⟨g,i * 3,none⟩ : Addr).add j)=some v):=fun j u hj=>by
  rw [cP]; exact hcell _ u (by rwa [List.getElem?_drop] at hj)
 have JH:Hid (ai w.drew g 147 cur.toList):=hL.drew
 have Fi:gx < w.heap.size:=hx.lt
 have HX:=jZ hx
 have IF : ¬ ((i:Int)=(n:Int)):=oM
 have Ga : ¬ ((cap:Int) < (n:Int)+1):=oM
 have Mx : ¬ (cap=i):=oM
 have JI : ¬ (cap=i+1):=oM
 have yw:i≤n:=oM
 have JJ:i≤n+1:=oM
 have JK:(i:Int)≤(n:Int)+1:=oM
 have Bm:IntKind.i64.wrap ((i:Int)+1)=(i:Int)+1:=by rw [IntKind.wrap_i64]; omega
 have hb1' : (0:Int)≤(i:Int)+1:=oM
 have zZ:Nat.min (n+1 - i) (n - i)=n - i:=by simp only [Nat.min_def]; split <;> omega
 have zY:Nat.min 1 (n+1 - i)=1:=by simp only [Nat.min_def]; split <;> omega
 clear yC yn yD zU hL hx hcell h1 Di
 go_enter Tryz.func236,Tryz.ntmps236
 go_wp2_with (simp only [JF])
 go_still_tail 8,kZ
 change wpList _ _ _ _ _ w.drew
 go_wp2_with (first
  | (with_reducible show wpList _ _ _ (Oper.mk (some 77) _ _ _ _ _ :: _) _ _; refine dh rfl _ _ 38 rfl 147 147 3 g ((i+1) * 3) (n - i) (cap - (i+1)) ⟨g,i * 3,none⟩ (n+1 - i) (cap - i) (n - i) (xs.drop (i * 3)) _ rfl rfl Tryz.underlying38 ?v3 zZ BI.out JH Eg JG Cw ?_; rotate_right; intro W2 Ef ym)
  | (with_reducible show wpList _ _ _ (Oper.mk (some 82) _ _ _ _ _ :: _) _ _; refine dh rfl _ _ 38 rfl 147 147 3 g (i * 3) (n+1 - i) (cap - i) ⟨gx,0,none⟩ 1 cx 1 r.enc _ rfl rfl Tryz.underlying38 ?v4 zY ?v5 Ef ?v6 ?v7 Ff ?_; rotate_right; intro W3 Fg hg3))
 case v3=>rw [y7]; simp [yM]
 case v4=>rw [y7]; simp [yM]
 case v5=>rw [ae.enc_len]
 case v6=>unfold Hid; rw [bY _ _ _ Eg.out,CV.out,ae.enc_len]; omega
 case v7=>exact fun j u hj=>by rw [cP,Nat.zero_add,(fc ym ⟨gx,j,none⟩ Fi (by simp only; intro e; injection e with e; exact xw e)),HX.out.drew.cell]; exact hj
 have JL:Hid (i * 3+r.enc.length≤(aY cur.toList ((i+1) * 3) (xs.drop (i * 3))).length):=by unfold Hid; rw [bY _ _ _ Eg.out,CV.out,ae.enc_len]; omega
 go_ret
 have e1:(i+1) * 3=i * 3+3:=Nat.succ_mul i 3
 refine ⟨_,rfl,⟨?_,.inr ⟨g,cap,(aY (aY cur.toList ((i+1) * 3) (xs.drop (i * 3))) (i * 3) r.enc).toArray,rfl,hB,Fg.out,hroom,Fa.out, ?_, ?_⟩⟩, ?_⟩
 ·rw [List.length_append,List.length_append,List.length_take,ae.enc_len,BI.out,Co.out,Nat.sub_mul]; omega
 ·rw [List.size_toArray,bY _ _ _ JL.out,bY _ _ _ Eg.out,CV.out]
 ·show List.take _ (aY _ _ _)=_
  rw [e1]
  exact kW cur.toList xs r.enc i 3 n (ae.enc_len r) Co.out yw GB.out (by rw [CV.out]; exact Fh)
 ·exact ⟨hg3.os.trans ym.os,hg3.tape.trans ym.tape,hg3.output.trans ym.output,jT ym.size hg3.size,fun j hj hq=>(hg3.block j (jL hj ym.size) hq).trans (ym.block j hj hq)⟩
theorem pb (B:Nat) (v:Value) (n:Nat) (xs:List Value) (w:World) (xH:w.ownsRow B 147 3 v n xs) (hn:n≤1000000) (i:Nat) (hi:i≤n) (r:ae) (gx cx:Nat) (hx:ai w gx 147 r.enc) (xw:v.ownBlock ≠ some gx) (hB:B≤w.heap.size) (h1:∀ u ∈ xs,u.oneCell'=true) :
  Calls xi 236 #[v,O U i,F (some ⟨gx,0,none⟩) 1 cx] w fun e w'=>∃ v',e=.returned v'∧w'.ownsRow B 147 3 v' (n+1) (xs.take (i * 3)++r.enc++xs.drop (i * 3))∧w.grownBy w' v.ownBlock:=by
 rcases Nat.lt_or_ge i n with xu | xR
 ·obtain ⟨hl,⟨rfl,rfl⟩ | ⟨g,cap,cur,rfl,hg,hh,hc,hc',yD,GC⟩⟩:=xH
  ·omega
  ·by_cases Gw:cap=n
   ·subst Gw
    exact nY B g cap cur xs w hh yD GC i xu hn r gx cx hx hB h1
   ·exact nZ B g n cap cur xs w hh yD oM hc' GC i xu hn r gx cx hx (fun e=>xw (by rw [e]; rfl)) hg h1
 ·have e:i=n:=oM
  subst e
  have hl:=xH.1
  rw [List.take_of_length_le oM,List.drop_eq_nil_of_le oM,List.append_nil]
  exact pa B v i xs w xH hn r gx cx hx hB
set_option maxRecDepth 100000 in
theorem pc (B:Nat) (v:Value) (n:Nat) (xs:List Value) (w:World) (xH:w.ownsRow B 147 3 v n xs) (hn:n≤1000000) (i:Nat) (hi:i < n) (h1:∀ u ∈ xs,u.oneCell'=true) :
  Calls xi 237 #[v,O U i,O U ((i:Int)+1)] w fun e w'=>∃ v',e=.returned v'∧w'.ownsRow B 147 3 v' (n - 1) (xs.take (i * 3)++xs.drop (i * 3+3))∧w.grownBy w' v.ownBlock∧v'.ownBlock=v.ownBlock:=by
 have mixed:xi.follows .mixedOrders=true:=kZ
 obtain ⟨i0,y7,y8,yM,CT⟩:=info_parts ew
 obtain ⟨zU,⟨rfl,rfl⟩ | ⟨g,cap,cur,rfl,hg,hh,hc,Di,yD,yn⟩⟩:=xH
 ·omega
 have hL:ai w g 147 cur.toList:=ai.of hh
 have yC:cur.toList.length=cap * 3:=by rw [Array.length_toList,yD]
 have IE:n * 3≤cap * 3:=Nat.mul_le_mul_right _ hc
 have ID:(i+1) * 3=i * 3+3:=Nat.succ_mul i 3
 have My:(i+1) * 3≤n * 3:=Nat.mul_le_mul_right _ oM
 have zJ:(n - 1) * 3+3=n * 3:=by rw [← Nat.succ_mul]; congr 1; omega
 have hcell:∀ j u,xs[j]?=some u→w.cell? ⟨g,j,none⟩=some u:=fun j u hu=>by
  rw [hL.cell]
  rw [← yn,List.getElem?_take] at hu
  split at hu
  ·exact hu
  ·cases hu
 have Ge:(xs.drop ((i+1) * 3)).length=(n - (i+1)) * 3:=by rw [List.length_drop,zU,Nat.sub_mul]
 -- the source's address
 obtain ⟨A,hA,Ax⟩ : ∃ A:Addr,(if cap=i+1 then some (⟨g,0,none⟩ : Addr) else some ⟨g,(i+1) * 3,none⟩)=some A∧∀ t u,(xs.drop ((i+1) * 3))[t]?=some u→w.drew.cell? (A.add t)=some u:=by
  by_cases h:cap=i+1
  ·refine ⟨⟨g,0,none⟩,by simp [h],fun t u hu=>?_⟩
   have h0:(xs.drop ((i+1) * 3)) = []:=List.eq_nil_of_length_eq_zero (by rw [Ge,show n - (i+1)=0 by omega,Nat.zero_mul])
   rw [h0] at hu; cases hu
  ·refine ⟨⟨g,(i+1) * 3,none⟩,by simp [h],fun t u hu=>?_⟩
   rw [cP]; exact hcell _ u (by rwa [List.getElem?_drop] at hu)
 have xZ:=run_append_room_cells (P:=xi) w.drew 38 38 147 i0 Tryz.underlying38 y7 g 0 i cap A (n - (i+1)) (cap - (i+1)) (xs.drop ((i+1) * 3)) (by rw [yM]; exact Ge) Ax (fun u hu=>h1 u (List.mem_of_mem_drop hu)) oM
  (fun j hj=>by
   show (w.cell? _).isSome=true
   rw [yM,Nat.zero_add,hL.cell,List.getElem?_eq_getElem (by rw [yC]; rw [Ge,Nat.sub_mul] at hj; omega)]; rfl) (fun j hj=>by show w.frozen? _=false; exact hL.frozen _)
 rw [yM,Nat.zero_add] at xZ
 have IG:i * 3+(xs.drop ((i+1) * 3)).length≤cur.toList.length:=by rw [Ge,yC,Nat.sub_mul]; omega
 have Cy:=jZ (ai.setCells (xs.drop ((i+1) * 3)) (i * 3) w.drew cur.toList hL.drew IG)
 have zX:w.grownBy (w.drew.setCells g (i * 3) (xs.drop ((i+1) * 3))) (some g):=gh _ _ _ ⟨rfl,rfl,rfl,Nat.le_refl _,fun _ _ _=>rfl⟩
 obtain ⟨W1,CU⟩ : ∃ W1,W1=w.drew.setCells g (i * 3) (xs.drop ((i+1) * 3)):=⟨_,rfl⟩
 rw [← CU] at xZ Cy zX
 have hlen' : i+(n - (i+1))=n - 1:=oM
 rw [hlen'] at xZ
 have HR:=xZ
 have hcm' : cap≤9223372036854775807:=by unfold maxLen at Di; omega
 have Fa:=jZ Di
 have CV:=jZ yC
 have GB:=jZ yn
 have Co:=jZ zU
 have BI:=jZ Ge
 have Cp:Hid ((n - 1) * 3+([O U 0,O U 0,O U 0] : List Value).length≤(aY cur.toList (i * 3) (xs.drop ((i+1) * 3))).length):=by
  unfold Hid; rw [bY _ _ _ IG,yC]; simp; omega
 have Mz:=jZ IG
 have IF : ¬ ((i:Int)=(i:Int)+1):=oM
 have NV:(i:Int)+1≤(n:Int):=oM
 have hb0:(0:Int)≤(i:Int)+1:=oM
 have yw:i+1≤n:=oM
 have MA : ¬ (cap=n - 1):=oM
 have II:n - (n - 1)=1:=oM
 have MB:n - 1≤n:=oM
 have NX:n≤cap:=hc
 have NY:i≤cap:=oM
 have MC:i+1≤cap:=oM
 have Lm:(i:Int)≤(cap:Int):=oM
 have NZ:((i:Int)+1).toNat=i+1:=oM
 have HA:=jZ hA
 clear CU xZ hcell Ax yD yC yn zU Ge IG hh hL h1 Di My zJ hA
 go_enter Tryz.func237,Tryz.ntmps237
 go_wp2
 go_still_tail 6,kZ
 change wpList _ _ _ _ _ w.drew
 go_wp2_with (first
  | (at_builtin; refine Lib.wpList_append_run _ rfl _ _ 38 38 rfl _ _ rfl ?w1 _ _ HR ?_)
  | (with_reducible show wpList _ _ _ (Oper.mk none (Op.call _) _ _ _ _ :: _) _ _; refine mq rfl _ 38 rfl 147 147 _ [O U 0,O U 0,O U 0] g ((n - 1) * 3) 1 (cap - (n - 1)) _ ?w2 Tryz.underlying38 Tryz.zeroValue147 oM ?w3 ?w4 Cy Cp ?_; rotate_right; intro W2 Ef ym))
 case w1.inl =>
  have h:=HA.out
  rw [if_pos (by assumption)] at h
  exact Option.some.inj h
 case w1.inr =>
  have h:=HA.out
  rw [if_neg (by assumption)] at h
  rw [← Option.some.inj h,ID]
 case w3=>kernel_rfl
 case w4=>simp [Value.oneCell']
 all_goals
  go_ret
  refine ⟨_,rfl,⟨?_,.inr ⟨g,_,(aY (aY cur.toList (i * 3) (xs.drop ((i+1) * 3))) ((n - 1) * 3) [O U 0,O U 0,O U 0]).toArray,rfl,hg,Ef.out,oM,by have:=Fa.out; omega, ?_, ?_⟩⟩, ?_,rfl⟩
  ·rw [List.length_append,List.length_take,List.length_drop,Co.out,Nat.sub_mul]; omega
  ·rw [List.size_toArray,bY _ _ _ Cp.out,bY _ _ _ Mz.out]; have:=CV.out; omega
  ·show List.take _ (aY _ _ _)=_
   rw [ID]
   exact o7 cur.toList xs [O U 0,O U 0,O U 0] i 3 n rfl Co.out hi GB.out (by rw [CV.out]; omega)
  ·exact ⟨ym.os.trans zX.os,ym.tape.trans zX.tape,ym.output.trans zX.output,jT zX.size ym.size,fun j hj hq=>(ym.block j (jL hj zX.size) hq).trans (zX.block j hj hq)⟩
structure aC (w:World) (B g:Nat) (vt vo:Value) (y:Oc):Prop where
 lies:ai w g 40 [vt,vo,O U y.gt,O U y.sd,O U y.ms]
 hg:B≤g
 t:w.ownsRow B 104 2 vt y.t.length (y.t.flatMap ar.enc)
 o:w.ownsRow B 147 3 vo y.o.length (y.o.flatMap ae.enc)
theorem fB:104 ≠ 40:=dD
theorem fj:147 ≠ 40:=dD
theorem tM:147 ≠ 104:=dD
set_option maxRecDepth 100000 in
theorem n6 (x:aN) (g:Nat) (w:World) (h:cu w w.heap.size g x) (tl:x.t.length≤1000000) (ol:x.o.length≤1000000) :
  Calls xi 93 #[.pointer (some ⟨g,0,none⟩)] w fun e w'=>∃ TA tc OA oc,e=.returned (aN.val (x.c.at TA tc OA oc))∧w'.ownsRow w.heap.size 104 2 (F TA x.t.length tc) x.t.length (x.t.flatMap ar.enc)∧w'.ownsRow w.heap.size 147 3 (F OA x.o.length oc) x.o.length (x.o.flatMap ae.enc)∧Below w.heap.size w w':=by
 have b1:=bZ w (.cells #[F none 0 0,F none 0 0,O U 0,O U 0,O U 0] 40)
 have L1:=ai.new w 40 #[F none 0 0,F none 0 0,O U 0,O U 0,O U 0]
 have hA:=h.then b1 b1.size
 go_enter Tryz.func93,Tryz.ntmps93
 go_wp2
 generalize w.alloc (.cells #[F none 0 0,F none 0 0,O U 0,O U 0,O U 0] 40)=W at b1 L1 hA ⊢
 have cT:∀ W',Below W.heap.size W W'→Calls xi 147 #[F x.TA x.t.length x.tc] W' (fun e w'=>∃ A c,e=.returned (F A x.t.length c)∧w'.ownsRow w.heap.size 104 2 (F A x.t.length c) x.t.length (x.t.flatMap ar.enc)∧Below W'.heap.size W' w'∧Below W.heap.size W w'):=fun W' hb =>
  (o9 x.TA x.tc x.t W' (hA.r.up hb nR).ts tl).mono fun e w' ⟨A,c,he,ho,hb'⟩=>⟨A,c,he,ag ho (jT b1.size hb.size),hb',av hb hb'⟩
 have cO:∀ W',Below W.heap.size W W'→Calls xi 148 #[F x.OA x.o.length x.oc] W' (fun e w'=>∃ A c,e=.returned (F A x.o.length c)∧w'.ownsRow w.heap.size 147 3 (F A x.o.length c) x.o.length (x.o.flatMap ae.enc)∧Below W'.heap.size W' w'∧Below W.heap.size W w'):=fun W' hb =>
  (nr x.OA x.oc x.o W' (hA.r.up hb nR).os ol).mono fun e w' ⟨A,c,he,ho,hb'⟩=>⟨A,c,he,ag ho (jT b1.size hb.size),hb',av hb hb'⟩
 have GE:∀ W',Below w.heap.size w W'→(Below w.heap.size w W'∧W'.cell? ⟨g,0,none⟩=some (F x.TA x.t.length x.tc)∧W'.cell? ⟨g,1,none⟩=some (F x.OA x.o.length x.oc)∧W'.cell? ⟨g,2,none⟩=some (O U x.gt)∧W'.cell? ⟨g,3,none⟩=some (O U x.sd)∧W'.cell? ⟨g,4,none⟩=some (O U x.ms)):=fun W' hb =>
  ⟨hb,h.s.c0 ⟨W',hb⟩,h.s.c1 ⟨W',hb⟩,h.s.c2 ⟨W',hb⟩,h.s.c3 ⟨W',hb⟩,h.s.c4 ⟨W',hb⟩⟩
 have HK:∀ W',Below W.heap.size W W'→(Below w.heap.size w W'∧W'.cell? ⟨g,0,none⟩=some (F x.TA x.t.length x.tc)∧W'.cell? ⟨g,1,none⟩=some (F x.OA x.o.length x.oc)∧W'.cell? ⟨g,2,none⟩=some (O U x.gt)∧W'.cell? ⟨g,3,none⟩=some (O U x.sd)∧W'.cell? ⟨g,4,none⟩=some (O U x.ms)):=fun W' hb=>GE W' (b1.trans (hb.mono b1.size))
 have GF:∀ W' (u0 u1 u2 u3 u4:Value),Below W.heap.size W W'→(Below w.heap.size w (((((W'.setCell ⟨w.heap.size,0,none⟩ u0).setCell ⟨w.heap.size,1,none⟩ u1).setCell ⟨w.heap.size,2,none⟩ u2).setCell ⟨w.heap.size,3,none⟩ u3).setCell ⟨w.heap.size,4,none⟩ u4)∧(((((W'.setCell ⟨w.heap.size,0,none⟩ u0).setCell ⟨w.heap.size,1,none⟩ u1).setCell ⟨w.heap.size,2,none⟩ u2).setCell ⟨w.heap.size,3,none⟩ u3).setCell ⟨w.heap.size,4,none⟩ u4).cell? ⟨g,0,none⟩=some (F x.TA x.t.length x.tc)∧(((((W'.setCell ⟨w.heap.size,0,none⟩ u0).setCell ⟨w.heap.size,1,none⟩ u1).setCell ⟨w.heap.size,2,none⟩ u2).setCell ⟨w.heap.size,3,none⟩ u3).setCell ⟨w.heap.size,4,none⟩ u4).cell? ⟨g,1,none⟩=some (F x.OA x.o.length x.oc)∧(((((W'.setCell ⟨w.heap.size,0,none⟩ u0).setCell ⟨w.heap.size,1,none⟩ u1).setCell ⟨w.heap.size,2,none⟩ u2).setCell ⟨w.heap.size,3,none⟩ u3).setCell ⟨w.heap.size,4,none⟩ u4).cell? ⟨g,2,none⟩=some (O U x.gt)∧(((((W'.setCell ⟨w.heap.size,0,none⟩ u0).setCell ⟨w.heap.size,1,none⟩ u1).setCell ⟨w.heap.size,2,none⟩ u2).setCell ⟨w.heap.size,3,none⟩ u3).setCell ⟨w.heap.size,4,none⟩ u4).cell? ⟨g,3,none⟩=some (O U x.sd)∧(((((W'.setCell ⟨w.heap.size,0,none⟩ u0).setCell ⟨w.heap.size,1,none⟩ u1).setCell ⟨w.heap.size,2,none⟩ u2).setCell ⟨w.heap.size,3,none⟩ u3).setCell ⟨w.heap.size,4,none⟩ u4).cell? ⟨g,4,none⟩=some (O U x.ms)):=fun W' u0 u1 u2 u3 u4 hb=>GE _ ((b1.trans (hb.mono b1.size)).grown (ab (ab (ab (ab (ab (World.grownBy.refl W' (some w.heap.size))))))) (jT b1.size hb.size) (by rintro _ ⟨⟩; exact Nat.le_refl _))
 have HZ:∀ W',Below W.heap.size W W'→(W'.cell? ⟨w.heap.size,0,none⟩=some (F none 0 0)∧W'.cell? ⟨w.heap.size,1,none⟩=some (F none 0 0)∧W'.cell? ⟨w.heap.size,2,none⟩=some (O U 0)∧W'.cell? ⟨w.heap.size,3,none⟩=some (O U 0)∧W'.cell? ⟨w.heap.size,4,none⟩=some (O U 0) ∧
   W'.frozen? ⟨w.heap.size,0,none⟩=false∧W'.frozen? ⟨w.heap.size,1,none⟩=false∧W'.frozen? ⟨w.heap.size,2,none⟩=false∧W'.frozen? ⟨w.heap.size,3,none⟩=false∧W'.frozen? ⟨w.heap.size,4,none⟩=false):=fun W' hb =>
  have L:=L1.below hb L1.lt
  ⟨L.cell 0,L.cell 1,L.cell 2,L.cell 3,L.cell 4,L.frozen 0,L.frozen 1,L.frozen 2,L.frozen 3,L.frozen 4⟩
 have Cy:=jZ L1; clear L1
 have GH:=jZ b1; clear b1
 clear hA h
 go_region_held3 (fun W'=>(Below w.heap.size w W'∧W'.cell? ⟨g,0,none⟩=some (F x.TA x.t.length x.tc)∧W'.cell? ⟨g,1,none⟩=some (F x.OA x.o.length x.oc)∧W'.cell? ⟨g,2,none⟩=some (O U x.gt)∧W'.cell? ⟨g,3,none⟩=some (O U x.sd)∧W'.cell? ⟨g,4,none⟩=some (O U x.ms))) (first | exact HK _ jB.drew | exact HK _ hb9 | exact HK _ xm | exact GF _ _ _ _ _ _ hb9 | exact GF _ _ _ _ _ _ xm) (first | (go_at_call 147; (first | (refine (cT _ jB.drew).mono ?_) | (refine (cT _ hb9).mono ?_)); rintro e w8 ⟨A8,c8,rfl,Dk,MD,xm⟩; obtain ⟨z0,z1,z2,z3,z4,f0,f1,f2,f3,f4⟩:=HZ _ xm) | (go_at_call 148; (first | (refine (cO _ jB.drew).mono ?_) | (refine (cO _ xm).mono ?_)); rintro e w9 ⟨A9,c9,rfl,GI,Eh,hb9⟩; obtain ⟨y0,y1,y2,y3,y4,g0,g1,g2,g3,g4⟩:=HZ _ hb9))
 have xv:ai w9 w.heap.size 40 [F none 0 0,F none 0 0,O U 0,O U 0,O U 0]:=Cy.out.below hb9 Cy.out.lt
 have e0:=(((((xv.set 0 (F A8 x.t.length c8)).set 1 (F A9 x.o.length c9)).set 2 (O U x.gt)).set 3 (O U x.sd)).set 4 (O U x.ms))
 have xC:=ab (g:=w.heap.size) (i:=4) (u:=O U x.ms) (gw4 w9 w.heap.size (F A8 x.t.length c8) (F A9 x.o.length c9) (O U x.gt) (O U x.sd))
 have r8:=ak (ac Dk Eh) xv fB xC
 have r9:=ak GI xv fj xC
 have b9:Below w.heap.size w w9:=GH.out.trans (hb9.mono GH.out.size)
 have b10:=b9.grown xC b9.size (by rintro _ ⟨⟩; exact Nat.le_refl _)
 generalize (((((w9.setCell ⟨w.heap.size,0,none⟩ (F A8 x.t.length c8)).setCell ⟨w.heap.size,1,none⟩ (F A9 x.o.length c9)).setCell ⟨w.heap.size,2,none⟩ (O U x.gt)).setCell ⟨w.heap.size,3,none⟩ (O U x.sd)).setCell ⟨w.heap.size,4,none⟩ (O U x.ms))=W10 at e0 xC r8 r9 b10 ⊢
 simp only [List.set_cons_zero,List.set_cons_succ] at e0
 obtain ⟨k0,k1,k2,k3,k4⟩:=cells5 e0
 have R8:=jZ r8; clear r8
 have R9:=jZ r9; clear r9
 clear z0 z1 z2 z3 z4 f0 f1 f2 f3 f4 y0 y1 y2 y3 y4 g0 g1 g2 g3 g4 Dk GI xC
 go_wp2
 refine bodyPost_ret (v:=aN.val (x.c.at A8 c8 A9 c9)) (by simp [results,Tryz.results93,go_sem,Oc.at,aN.c, *]) rfl ⟨A8,c8,A9,c9,rfl,R8.out,R9.out,b10⟩
theorem aC.then {w w' : World} {B g:Nat} {vt vo:Value} {y:Oc} (h:aC w B g vt vo y) (hb:Below w.heap.size w w'):aC w' B g vt vo y :=
 ⟨h.lies.below hb h.lies.lt,h.hg,ac h.t hb,ac h.o hb⟩
theorem jo {α:Type} (enc:α→List Value) (k:Nat) (hk:∀ x,(enc x).length=k):∀ (l:List α) (i:Nat),(l.take i).flatMap enc=(l.flatMap enc).take (i * k)
 | [],i=>by simp
 | x :: l,0=>by simp
 | x :: l,i+1=>by
  have e:(i+1) * k=(enc x).length+i * k:=by rw [hk,Nat.succ_mul]; omega
  rw [List.take_succ_cons,List.flatMap_cons,List.flatMap_cons,jo enc k hk l i,e,List.take_length_add_append]
theorem jp {α:Type} (enc:α→List Value) (k:Nat) (hk:∀ x,(enc x).length=k):∀ (l:List α) (i:Nat),(l.drop i).flatMap enc=(l.flatMap enc).drop (i * k)
 | [],i=>by simp
 | x :: l,0=>by simp
 | x :: l,i+1=>by
  have e:(i+1) * k=(enc x).length+i * k:=by rw [hk,Nat.succ_mul]; omega
  rw [List.drop_succ_cons,List.flatMap_cons,jp enc k hk l i,e,List.drop_length_add_append]
theorem qN {α:Type} (enc:α→List Value) (k:Nat) (hk:∀ x,(enc x).length=k) (l:List α) (i:Nat) (r:α):(l.take i++r :: l.drop i).flatMap enc=(l.flatMap enc).take (i * k)++enc r++(l.flatMap enc).drop (i * k):=by
 rw [List.flatMap_append,List.flatMap_cons,jo enc k hk,jp enc k hk,List.append_assoc]
theorem vh {α:Type} (enc:α→List Value) (k:Nat) (hk:∀ x,(enc x).length=k) (l:List α) (i:Nat):(l.take i++l.drop (i+1)).flatMap enc=(l.flatMap enc).take (i * k)++(l.flatMap enc).drop (i * k+k):=by
 rw [List.flatMap_append,jo enc k hk,jp enc k hk,Nat.succ_mul]
theorem ui {i:Nat} {c:Int} : ∀ {l:List ae} (h:i < l.length),(l.flatMap ae.enc).set (i * 3+2) (O U c)=(l.set i ⟨l[i].k,l[i].p,c⟩).flatMap ae.enc:=by
 induction i with
 | zero=>intro l h; match l,h with
  | x :: l,_=>simp [ae.enc]
 | succ i ih=>intro l h; match l,h with
  | x :: l,h =>
   simp only [List.flatMap_cons,List.getElem_cons_succ,List.set_cons_succ]
   rw [← ih (by simpa using h),List.set_append_right _ _ (by rw [ae.enc_len]; omega),ae.enc_len]
   congr 2; omega
theorem uj {i:Nat} {c:Int} : ∀ {l:List ar} (h:i < l.length),(l.flatMap ar.enc).set (i * 2+1) (O U c)=(l.set i ⟨l[i].k,c⟩).flatMap ar.enc:=by
 induction i with
 | zero=>intro l h; match l,h with
  | x :: l,_=>simp [ar.enc]
 | succ i ih=>intro l h; match l,h with
  | x :: l,h =>
   simp only [List.flatMap_cons,List.getElem_cons_succ,List.set_cons_succ]
   rw [← ih (by simpa using h),List.set_append_right _ _ (by rw [ar.enc_len]; omega),ar.enc_len]
   congr 2; omega
def dJ (os:List ae) (k p:Int):Nat:=(os.takeWhile fun o=>before o ⟨k,p,0⟩).length
theorem io (o:ae) (os:List ae) (k p:Int):dJ (o :: os) k p=if before o ⟨k,p,0⟩=true then dJ os k p+1 else 0:=by
 unfold dJ; rw [List.takeWhile_cons]; by_cases h:before o ⟨k,p,0⟩=true <;> simp [h]
theorem tN (os:List ae) (k p:Int):dJ os k p≤os.length:=by
 unfold dJ; exact (List.takeWhile_prefix _).length_le
theorem qc:∀ (os:List ae) (k p:Int) (i:Nat) (h:i < os.length),i < dJ os k p→before os[i] ⟨k,p,0⟩=true
 | o :: os,k,p,i,h,hi=>by
  rw [io] at hi
  split at hi
  ·cases i with
   | zero=>assumption
   | succ i=>exact qc os k p i (by simpa using h) oM
  ·omega
theorem qd:∀ (os:List ae) (k p:Int),o6 os→∀ (i:Nat) (h:i < os.length),dJ os k p≤i→¬ before os[i] ⟨k,p,0⟩=true
 | o :: os,k,p,ha,i,h,hi=>by
  obtain ⟨h1,h2⟩:=List.pairwise_cons.1 ha
  by_cases hb:before o ⟨k,p,0⟩=true
  ·rw [io,if_pos hb] at hi
   cases i with
   | zero=>omega
   | succ i=>exact qd os k p h2 i (by simpa using h) oM
  ·cases i with
   | zero=>exact hb
   | succ i =>
    have:=h1 (os[i]'(by simpa using h)) (List.getElem_mem _)
    simp only [List.getElem_cons_succ]
    rw [dR] at this hb ⊢; simp only at hb ⊢; omega
theorem qO {k p b:Int} : ∀ (os:List ae),(∀ h:dJ os k p < os.length,ft k p os[dJ os k p]=false)→eV k p b os=os.take (dJ os k p)++⟨k,p,b⟩ :: os.drop (dJ os k p)
 | [],_=>by simp [eV,dJ]
 | o :: os,h=>by
  by_cases hb:before o ⟨k,p,0⟩=true
  ·have e:dJ (o :: os) k p=dJ os k p+1:=by rw [io,if_pos hb]
   simp only [e] at h ⊢
   rw [eV,if_pos hb,qO os (fun h'=>by have:=h (by simpa using h'); simpa using this),List.take_succ_cons,List.drop_succ_cons,List.cons_append]
  ·have e:dJ (o :: os) k p=0:=by rw [io,if_neg hb]
   simp only [e] at h ⊢
   have:=h sP
   simp only [List.getElem_cons_zero] at this
   rw [eV,if_neg hb,this,if_neg sP]; rfl
theorem qP {k p b:Int} : ∀ (os:List ae) (h:dJ os k p < os.length),ft k p os[dJ os k p]=true →
  eV k p b os=if os[dJ os k p].c+b=0 then os.take (dJ os k p)++os.drop (dJ os k p+1) else os.set (dJ os k p) ⟨os[dJ os k p].k,os[dJ os k p].p,os[dJ os k p].c+b⟩
 | o :: os,h,hi=>by
  by_cases hb:before o ⟨k,p,0⟩=true
  ·have e:dJ (o :: os) k p=dJ os k p+1:=by rw [io,if_pos hb]
   simp only [e,List.getElem_cons_succ] at h hi ⊢
   rw [eV,if_pos hb,qP os (by simpa using h) hi,List.take_succ_cons,List.drop_succ_cons,List.cons_append,List.set_cons_succ]
   split <;> rfl
  ·have e:dJ (o :: os) k p=0:=by rw [io,if_neg hb]
   simp only [e,List.getElem_cons_zero] at h hi ⊢
   rw [eV,if_neg hb,if_pos hi]
   split <;> simp
theorem nF {a b:ae} : jJ a b < 0 ↔ before a b=true:=by
 have h:=mX a b
 by_cases h0:0≤jJ a b
 ·rw [jD h0] at h
  have:before a b=false:=by cases hb:before a b; rfl; rw [hb] at h; cases h
  rw [this]; constructor
  ·intro h; omega
  ·intro h; cases h
 ·rw [jE h0] at h
  have:before a b=true:=by cases hb:before a b; rw [hb] at h; cases h; rfl
  rw [this]; constructor
  ·intro _; rfl
  ·intro _; omega
theorem pv {a:ae} {k p b:Int} : decide (jJ a ⟨k,p,b⟩=0)=ft k p a:=by
 rw [Bool.eq_iff_iff,decide_eq_true_eq,eh]
 unfold jJ we iQ
 dsimp only
 constructor
 ·intro h
  repeat' split at h
  all_goals first | omega | (constructor <;> omega)
 ·rintro ⟨rfl,rfl⟩
  simp
theorem aC.ne_to {w:World} {B g:Nat} {vt vo:Value} {y:Oc} (h:aC w B g vt vo y):vo.ownBlock ≠ some g:=fun e=>bn h.o h.lies fj e.symm
theorem aC.ne_t {w:World} {B g:Nat} {vt vo:Value} {y:Oc} (h:aC w B g vt vo y):vt.ownBlock ≠ some g:=fun e=>bn h.t h.lies fB e.symm
theorem aC.setO {w w' : World} {B g:Nat} {vt vo vo' : Value} {y:Oc} {os:List ae} (h:aC w B g vt vo y) (hg:w.grownBy w' vo.ownBlock) (ho:w'.ownsRow B 147 3 vo' os.length (os.flatMap ae.enc)) :
  aC (w'.setCell ⟨g,1,none⟩ vo') B g vt vo' { y with o:=os }:=by
 have hL:ai w' g 40 _:=h.lies.kept hg (fun e=>h.ne_to e.symm)
 have ht:=fi h.t h.o tM hg
 exact ⟨hL.set 1 vo',h.hg,am ht hL fB 1 vo',am ho hL fj 1 vo'⟩
theorem pw (t u:ae) (w:World):Calls xi 118 (#[t.val,u.val]++#[]) w fun e w'=>e=.returned (O U (jJ t u))∧Below w.heap.size w w':=ix t u w
set_option maxRecDepth 100000 in
theorem sh (B g:Nat) (vt vo:Value) (y:Oc) (k p b:Int) (w:World) (h:aC w B g vt vo y) (hB:B≤w.heap.size) (ha:o6 y.o) (hn:y.o.length≤100000) (zb:∀ h:dJ y.o k p < y.o.length,ft k p y.o[dJ y.o k p]=false) :
  Calls xi 216 #[.pointer (some ⟨g,0,none⟩),O U k,O U p,O U b] w fun e w'=>∃ vo',e=.returned (.tuple #[])∧aC w' B g vt vo' { y with o:=eV k p b y.o }∧Below B w w':=by
 have b1:=bZ w (.cells #[O U k,O U p,O U b] 147)
 have L1:=ai.new w 147 #[O U k,O U p,O U b]
 have h1:=h.then b1
 have HC:=jZ (qO y.o zb (b:=b))
 have Bj:∀ i (h:i < y.o.length),i < dJ y.o k p→jJ y.o[i] ⟨k,p,b⟩ < 0:=fun i h hi=>nF.2 (qc y.o k p i h hi)
 have Cl:∀ i (h:i < y.o.length),dJ y.o k p≤i→¬ jJ y.o[i] ⟨k,p,b⟩ < 0:=fun i h hi hc=>qd y.o k p ha i h hi (nF.1 hc)
 have Cm:∀ h:dJ y.o k p < y.o.length,false=decide (jJ y.o[dJ y.o k p] ⟨k,p,b⟩=0):=fun h=>by rw [pv,zb h]
 have Az:=tN y.o k p
 obtain ⟨A0,c0,rfl⟩:=az h.o
 have cB:∀ W,Below (w.alloc (.cells #[O U k,O U p,O U b] 147)).heap.size (w.alloc (.cells #[O U k,O U p,O U b] 147)) W→Calls xi 235 #[F A0 y.o.length c0,.agg #[O U k,O U p,O U b],.func (.func 118) #[] #[]] W fun e w'=>e=.returned (.tuple #[O U (dJ y.o k p),.bool false])∧Below W.heap.size W w':=fun W hb =>
  lJ (fun o=>jJ o ⟨k,p,b⟩) ⟨k,p,b⟩ 118 #[] Tryz.call118 A0 c0 y.o W (fun t p=>pw t _ p.val) (an (h1.then hb).o) oM (dJ y.o k p) Az Bj Cl false Cm (fun _=>rfl)
 generalize dJ y.o k p=q at cB HC Az
 clear Bj Cl Cm zb ha
 go_enter Tryz.func216,Tryz.ntmps216
 go_wp2
 generalize w.alloc (.cells #[O U k,O U p,O U b] 147)=W at b1 L1 h1 cB ⊢
 have zG:∀ r:aq W.heap.size W,r.val.cell? ⟨g,1,none⟩=some (F A0 y.o.length c0):=fun r=>(r.cell h1.lies.lt).trans (h1.lies.cell 1)
 have Bb:∀ r:aq W.heap.size W,r.val.cell? ⟨w.heap.size,0,none⟩=some (O U k):=fun r=>(r.cell L1.lt).trans (L1.cell 0)
 have AG:∀ r:aq W.heap.size W,r.val.cell? ⟨w.heap.size,1,none⟩=some (O U p):=fun r=>(r.cell L1.lt).trans (L1.cell 1)
 have AH:∀ r:aq W.heap.size W,r.val.cell? ⟨w.heap.size,2,none⟩=some (O U b):=fun r=>(r.cell L1.lt).trans (L1.cell 2)
 have cB':=fun r:aq W.heap.size W=>cB r.val r.below
 refine aw kZ kZ ?_
 repeat (any_goals (first | go_big_quiet_step ((go_at_call 235; refine aP nR (cB' _))) | (refine wpQuiet_step (fun K hK=>?_); go_simp; split <;> (refine hK _ ?_; clear hK K))))
 all_goals (refine wpQuiet_nil ?_; rintro _ ⟨q1,rfl⟩)
 all_goals go_wp2
 have h2:=h1.then q1.below
 have b2:Below w.heap.size w q1.val:=b1.trans (q1.below.mono b1.size)
 clear zG cB cB' h1 b1
 have c1:q1.val.cell? ⟨g,1,none⟩=some (F A0 y.o.length c0):=h2.lies.cell 1
 have e0:=Bb q1
 have e1:=AG q1
 have e2:=AH q1
 clear Bb AG AH
 have bS:=(Below.refl q1.val.heap.size q1.val).alloc nR (.cells #[O U k,O U p,O U b] 147)
 have hS:aC (q1.val.alloc (.cells #[O U k,O U p,O U b] 147)).drew B g vt (F A0 y.o.length c0) y:=(h2.then bS).then jB.drew
 have GJ:B≤q1.val.heap.size:=jT hB b2.size
 have cI:=pb B (F A0 y.o.length c0) y.o.length (y.o.flatMap ae.enc) (q1.val.alloc (.cells #[O U k,O U p,O U b] 147)).drew hS.o oM q Az ⟨k,p,b⟩ q1.val.heap.size 1 (ai.new q1.val 147 #[O U k,O U p,O U b]).drew (fun e=>by have:=(h2.o.lt _ e).2; omega) (jT GJ bS.size) fw
 rw [show (y.o.flatMap ae.enc).take (q * 3)++ae.enc ⟨k,p,b⟩++(y.o.flatMap ae.enc).drop (q * 3)=(eV k p b y.o).flatMap ae.enc by rw [HC.out,qN ae.enc 3 ae.enc_len]] at cI
 have xt:y.o.length+1=(eV k p b y.o).length:=by rw [HC.out]; simp; omega
 rw [xt] at cI
 have c1':=hS.lies.cell 1
 simp only [gz0,gz1] at c1'
 have HS:=jZ hS; clear hS
 have JM:=jZ xt; clear xt
 go_region_law (first | (go_simp; go_at_call 236; refine cI.mono ?_; rintro e w9 ⟨v',rfl,HO,yY⟩; obtain ⟨A9,c9,rfl⟩:=az HO; have k1:=(HS.out.lies.kept yY (fun e=>HS.out.ne_to e.symm)).cell 1; have k2:=(HS.out.lies.kept yY (fun e=>HS.out.ne_to e.symm)).frozen 1; simp only [gz0,gz1] at k1))
 all_goals
  go_wp2
  refine bodyPost_ret (results_none rfl _ _ _) rfl ?_
  have hO:=HS.out.setO yY HO
  refine ⟨_,rfl,hO, ?_⟩
  have bq:Below B w (q1.val.alloc (.cells #[O U k,O U p,O U b] 147)).drew:=(b2.mono hB).trans ((bS.drew).mono GJ)
  have b9:Below B w w9:=bq.grown yY (jT GJ bS.size) (fun j hj=>(HS.out.o.lt _ hj).1)
  exact b9.grown (ab (World.grownBy.refl w9 (some g))) (jT hB b9.size) (by rintro _ ⟨⟩; exact HS.out.hg)
set_option maxRecDepth 100000 in
theorem si (B g:Nat) (vt vo:Value) (y:Oc) (k p b:Int) (w:World) (h:aC w B g vt vo y) (hB:B≤w.heap.size) (ha:o6 y.o) (hn:y.o.length≤100000) (xu:dJ y.o k p < y.o.length) (hold:ft k p y.o[dJ y.o k p]=true)
  (hc : -1000000000≤y.o[dJ y.o k p].c∧y.o[dJ y.o k p].c≤1000000000) (hb : -1000000000≤b∧b≤1000000000) :
  Calls xi 216 #[.pointer (some ⟨g,0,none⟩),O U k,O U p,O U b] w fun e w'=>∃ vo',e=.returned (.tuple #[])∧aC w' B g vt vo' { y with o:=eV k p b y.o }∧Below B w w':=by
 have b1:=bZ w (.cells #[O U k,O U p,O U b] 147)
 have L1:=ai.new w 147 #[O U k,O U p,O U b]
 have h1:=h.then b1
 have HC:=jZ (qP y.o xu hold (b:=b))
 have Bj:∀ i (h:i < y.o.length),i < dJ y.o k p→jJ y.o[i] ⟨k,p,b⟩ < 0:=fun i h hi=>nF.2 (qc y.o k p i h hi)
 have Cl:∀ i (h:i < y.o.length),dJ y.o k p≤i→¬ jJ y.o[i] ⟨k,p,b⟩ < 0:=fun i h hi hc=>qd y.o k p ha i h hi (nF.1 hc)
 have Cm:∀ h:dJ y.o k p < y.o.length,true=decide (jJ y.o[dJ y.o k p] ⟨k,p,b⟩=0):=fun h=>by rw [pv,hold]
 have Az:=tN y.o k p
 obtain ⟨go,cap,rest,rfl,ME,MF,xA⟩:=cg h.o oM
 have cB:∀ W,Below (w.alloc (.cells #[O U k,O U p,O U b] 147)).heap.size (w.alloc (.cells #[O U k,O U p,O U b] 147)) W→Calls xi 235 #[F (some ⟨go,0,none⟩) y.o.length cap,.agg #[O U k,O U p,O U b],.func (.func 118) #[] #[]] W fun e w'=>e=.returned (.tuple #[O U (dJ y.o k p),.bool true])∧Below W.heap.size W w':=fun W hb =>
  lJ (fun o=>jJ o ⟨k,p,b⟩) ⟨k,p,b⟩ 118 #[] Tryz.call118 _ cap y.o W (fun t p=>pw t _ p.val) (an (h1.then hb).o) oM (dJ y.o k p) Az Bj Cl true Cm (fun e=>by omega)
 have xw : ¬ go=g:=fun e=>h.ne_to (by rw [← e]; rfl)
 have hne' : ¬ g=go:=fun e=>xw e.symm
 obtain ⟨q,hq⟩ : ∃ q,q=dJ y.o k p:=⟨_,rfl⟩
 have hlt' : q < y.o.length:=by rw [hq]; exact xu
 have Ln:y.o[dJ y.o k p]=y.o[q]:=by congr 1; exact hq.symm
 rw [Ln] at hc HC
 rw [← hq] at cB HC Az
 obtain ⟨r,xW⟩ : ∃ r,r=y.o[q]:=⟨_,rfl⟩
 rw [← xW] at hc HC
 clear Ln hold Cm
 have GK:(y.o.flatMap ae.enc)[q * 3+2]?=some (O U r.c):=by rw [fm ae.enc 3 ae.enc_len y.o q hlt' 2 oM,← xW]; rfl
 have GL:=jZ (ui (c:=r.c+b) hlt')
 rw [← xW] at GL
 have hq3:q * 3+2 < y.o.length * 3:=oM
 clear Bj Cl ha xW MF rest hq xu
 obtain ⟨zG,Gb⟩:=hc
 obtain ⟨xp,xn⟩:=hb
 go_enter Tryz.func216,Tryz.ntmps216
 go_wp2
 generalize w.alloc (.cells #[O U k,O U p,O U b] 147)=W at b1 L1 h1 cB ⊢
 have zG:∀ r:aq W.heap.size W,r.val.cell? ⟨g,1,none⟩=some (F (some ⟨go,0,none⟩) y.o.length cap):=fun r=>(r.cell h1.lies.lt).trans (h1.lies.cell 1)
 have Bb:∀ r:aq W.heap.size W,r.val.cell? ⟨w.heap.size,0,none⟩=some (O U k):=fun r=>(r.cell L1.lt).trans (L1.cell 0)
 have AG:∀ r:aq W.heap.size W,r.val.cell? ⟨w.heap.size,1,none⟩=some (O U p):=fun r=>(r.cell L1.lt).trans (L1.cell 1)
 have AH:∀ r:aq W.heap.size W,r.val.cell? ⟨w.heap.size,2,none⟩=some (O U b):=fun r=>(r.cell L1.lt).trans (L1.cell 2)
 have cB':=fun r:aq W.heap.size W=>cB r.val r.below
 refine aw kZ kZ ?_
 repeat (any_goals (first | go_big_quiet_step ((go_at_call 235; refine aP nR (cB' _))) | (refine wpQuiet_step (fun K hK=>?_); go_simp; split <;> (refine hK _ ?_; clear hK K))))
 all_goals (refine wpQuiet_nil ?_; rintro _ ⟨q1,rfl⟩)
 have h2:=h1.then q1.below
 have b2:Below w.heap.size w q1.val:=b1.trans (q1.below.mono b1.size)
 have GJ:B≤q1.val.heap.size:=jT hB b2.size
 clear zG cB cB' h1 b1 Bb AG AH
 have c1:q1.val.cell? ⟨g,1,none⟩=some (F (some ⟨go,0,none⟩) y.o.length cap):=h2.lies.cell 1
 have c1f:q1.val.frozen? ⟨g,1,none⟩=false:=h2.lies.frozen 1
 have c2:q1.val.cell? ⟨go,q * 3+2,none⟩=some (O U r.c):=(h2.o.cellAt _ hq3).trans GK
 have c2f:q1.val.frozen? ⟨go,q * 3+2,none⟩=false:=h2.o.frozenAt _
 have xN:=m3 h2.o (q * 3+2) (O U (r.c+b)) hq3
 rw [GL.out] at xN
 have zd:=h2.lies.other (p:=⟨go,q * 3+2,none⟩) hne' (O U (r.c+b))
 have ye:=fi (w':=q1.val.setCell ⟨go,q * 3+2,none⟩ (O U (r.c+b))) h2.t h2.o tM (ab (World.grownBy.refl q1.val (some go)))
 have b3:Below B w (q1.val.setCell ⟨go,q * 3+2,none⟩ (O U (r.c+b))):=(b2.mono hB).grown (ab (World.grownBy.refl q1.val (some go))) GJ (by rintro _ ⟨⟩; exact ME)
 have s3:q1.val.heap.size≤(q1.val.setCell ⟨go,q * 3+2,none⟩ (O U (r.c+b))).heap.size:=by simp [World.setCell]
 by_cases hz:r.c+b=0
 ·have HZ:=jZ hz
  have hz' : (r.c+b == 0)=true:=by simp [hz]
  clear hz
  rw [if_pos HZ.out] at HC
  have xE:aC (q1.val.setCell ⟨go,q * 3+2,none⟩ (O U (r.c+b))) B g vt (F (some ⟨go,0,none⟩) y.o.length cap) { y with o:=y.o.set q ⟨r.k,r.p,r.c+b⟩ }:=⟨zd,h.hg,ye,by simpa using xN⟩
  have cD:=pc B (F (some ⟨go,0,none⟩) y.o.length cap) y.o.length ((y.o.set q ⟨r.k,r.p,r.c+b⟩).flatMap ae.enc) (q1.val.setCell ⟨go,q * 3+2,none⟩ (O U (r.c+b))) xN oM q hlt' fw
  rw [← vh ae.enc 3 ae.enc_len,List.take_set_of_le nR,List.drop_set_of_lt (Nat.lt_succ_self _),← HC.out] at cD
  have xt:y.o.length - 1=(eV k p b y.o).length:=by rw [HC.out]; simp; omega
  rw [xt] at cD
  have JM:=jZ xt; clear xt
  have Ej:=jZ xE; clear xE
  go_wp2_with fail
  refine cD.mono ?_
  rintro e w9 ⟨v',rfl,HO,yY,_⟩
  obtain ⟨A9,c9,rfl⟩:=az HO
  have xv:=Ej.out.lies.kept yY (fun e=>Ej.out.ne_to e.symm)
  have k1:=xv.cell 1
  have k2:=xv.frozen 1
  simp only [gz0,gz1] at k1
  have hO:=Ej.out.setO yY HO
  have b9:Below B w w9:=b3.grown yY (jT hB b3.size) (fun j hj=>(Ej.out.o.lt _ hj).1)
  have b10:=b9.grown (ab (g:=g) (i:=1) (u:=F A9 (eV k p b y.o).length c9) (World.grownBy.refl w9 (some g))) (jT hB b9.size) (by rintro _ ⟨⟩; exact h.hg)
  go_wp2
  go_end0
  exact ⟨_,rfl,hO,b10⟩
 ·have HZ:=jZ hz
  have hz' : (r.c+b == 0)=false:=by simp [hz]
  clear hz
  rw [if_neg HZ.out] at HC
  go_wp2
  go_end0
  exact ⟨_,rfl,⟨zd,h.hg,ye,by rw [HC.out]; simpa using xN⟩,b3⟩
theorem gD (B g:Nat) (vt vo:Value) (y:Oc) (k p b:Int) (w:World) (h:aC w B g vt vo y) (hB:B≤w.heap.size) (ha:o6 y.o) (hn:y.o.length≤100000) (hc:∀ o ∈ y.o, -1000000000≤o.c∧o.c≤1000000000) (hb : -1000000000≤b∧b≤1000000000) :
  Calls xi 216 #[.pointer (some ⟨g,0,none⟩),O U k,O U p,O U b] w fun e w'=>∃ vo',e=.returned (.tuple #[])∧aC w' B g vt vo' { y with o:=eV k p b y.o }∧Below B w w':=by
 by_cases h0:∃ h:dJ y.o k p < y.o.length,ft k p y.o[dJ y.o k p]=true
 ·obtain ⟨xu,hi⟩:=h0
  exact si B g vt vo y k p b w h hB ha hn xu hi (hc _ (List.getElem_mem _)) hb
 ·exact sh B g vt vo y k p b w h hB ha hn (fun h'=>by
   cases hi:ft k p y.o[dJ y.o k p]
   ·rfl
   ·exact absurd ⟨h',hi⟩ h0)
def Oc.fin (r:Oc):Option Oc:=if r.good then some r else none
def bm (y:Oc) (s:de):Option Oc :=
 if s.kind=1 then Oc.fin { y with t:=aj y.t s.stamp s.value,gt:=y.gt+s.value }
 else if ¬ 0≤ay y.t s.stamp then none
 else if s.kind=2 then Oc.fin { y with t:=aj y.t s.stamp (-s.value),o:=eV s.stamp s.person s.value y.o }
 else if aO s.stamp s.person y.o=0∧0 < s.person then none
 else if s.kind=3 then Oc.fin { y with t:=aj y.t s.stamp s.value,o:=eV s.stamp s.person (-s.value) y.o }
 else if s.kind=4 then (if s.person=0 then Oc.fin { y with t:=aj y.t s.stamp (-s.value),sd:=y.sd+s.value } else Oc.fin { y with o:=eV s.stamp s.person (-s.value) y.o,sd:=y.sd+s.value })
 else if s.kind=5 then Oc.fin { y with o:=eV s.stamp s.person (-aO s.stamp s.person y.o) y.o,ms:=y.ms+aO s.stamp s.person y.o }
 else Oc.fin { y with o:=eV s.stamp s.value (aO s.stamp s.person y.o) (eV s.stamp s.person (-aO s.stamp s.person y.o) y.o) }
def Oc.zero:Oc:=⟨[],[],0,0,0⟩
def cQ (R:Option Oc):Oc:=R.getD Oc.zero
def aE (w:World) (R:Option Oc) (e:Ending) (w' : World):Prop :=
 ∃ TA tc OA oc,e=.returned (.tuple #[aN.val ((cQ R).at TA tc OA oc),.bool R.isSome])∧w'.ownsRow w.heap.size 104 2 (F TA (cQ R).t.length tc) (cQ R).t.length ((cQ R).t.flatMap ar.enc) ∧
  w'.ownsRow w.heap.size 147 3 (F OA (cQ R).o.length oc) (cQ R).o.length ((cQ R).o.flatMap ae.enc)∧Below w.heap.size w w'
theorem aE.no {w w' : World} {e:Ending} (he:e=.returned (.tuple #[.agg #[F none 0 0,F none 0 0,O U 0,O U 0,O U 0],.bool false])) (hb:Below w.heap.size w w'):aE w none e w' :=
 ⟨none,0,none,0,he,World.ownsRow_nil _ _ _ _,World.ownsRow_nil _ _ _ _,hb⟩
theorem aE.yes {w w' : World} {e:Ending} {r:Oc} {A1 A2:Option Addr} {a1 a2:Nat} (he:e=.returned (.tuple #[.agg #[F A1 r.t.length a1,F A2 r.o.length a2,O U r.gt,O U r.sd,O U r.ms],.bool true]))
  (h8:w'.ownsRow w.heap.size 104 2 (F A1 r.t.length a1) r.t.length (r.t.flatMap ar.enc)) (h9:w'.ownsRow w.heap.size 147 3 (F A2 r.o.length a2) r.o.length (r.o.flatMap ae.enc)) (hb:Below w.heap.size w w'):aE w (some r) e w' :=
 ⟨A1,a1,A2,a2,he,h8,h9,hb⟩
theorem aC.at_ {w:World} {B g:Nat} {A1 A2:Option Addr} {c1 c2:Nat} {y:Oc} (h:aC w B g (F A1 y.t.length c1) (F A2 y.o.length c2) y):cu w w.heap.size g (y.at A1 c1 A2 c2) :=
 cu.of (x:=y.at A1 c1 A2 c2) h.lies ⟨an h.t,an h.o⟩
theorem aC.form {w:World} {B g:Nat} {vt vo:Value} {y:Oc} (h:aC w B g vt vo y):∃ A1 c1 A2 c2,vt=F A1 y.t.length c1∧vo=F A2 y.o.length c2:=by
 obtain ⟨A1,c1,h1⟩:=az h.t
 obtain ⟨A2,c2,h2⟩:=az h.o
 exact ⟨A1,c1,A2,c2,h1,h2⟩
theorem vi (t:ae) (gs:Nat) (kd st pe va:Int) (w:World) (hL:ai w gs 112 [O U kd,O U st,O U pe,O U va]) :
  Calls xi 215 (#[t.val]++#[.pointer (some ⟨gs,0,none⟩)]) w fun e w'=>e=.returned (.bool (ft st pe t))∧Below w.heap.size w w':=by
 show Calls xi 215 #[t.val,.pointer (some ⟨gs,0,none⟩)] w _
 have b1:=bZ w (.cells #[O U t.k,O U t.p,O U t.c] 147)
 have c1:∀ r:aq w.heap.size w,r.val.cell? ⟨gs,1,none⟩=some (O U st):=fun r=>(r.cell hL.lt).trans (hL.cell 1)
 have c2:∀ r:aq w.heap.size w,r.val.cell? ⟨gs,2,none⟩=some (O U pe):=fun r=>(r.cell hL.lt).trans (hL.cell 2)
 have HI:Hid (ft st pe t=(decide (t.k=st) && decide (t.p=pe))):=rfl
 have Dj:=ai.new w 147 #[O U t.k,O U t.p,O U t.c]
 obtain ⟨q,hq⟩ : ∃ q:aq w.heap.size w,w.alloc (.cells #[O U t.k,O U t.p,O U t.c] 147)=q.val:=⟨⟨_,b1⟩,rfl⟩
 rw [hq] at Dj
 obtain ⟨d0,d1⟩:=cells2 Dj
 have zV:=q.below.size
 by_cases h1:t.k=st
 ·have v1:(t.k == st)=true:=by simp [h1]
  have H1:=jZ h1; clear h1
  by_cases h2:t.p=pe
  ·have v2:(t.p == pe)=true:=by simp [h2]
   have H2:=jZ h2; clear h2
   go_enter Tryz.func215,Tryz.ntmps215
   go_wp2_with (rw [hq])
   all_goals go_ret
   all_goals exact ⟨by rw [HI.out,jD H1.out,jD H2.out]; rfl,q.below⟩
  ·have v2:(t.p == pe)=false:=by simp [h2]
   have H2:=jZ h2; clear h2
   go_enter Tryz.func215,Tryz.ntmps215
   go_wp2_with (rw [hq])
   all_goals go_ret
   all_goals exact ⟨by rw [HI.out,jD H1.out,jE H2.out]; rfl,q.below⟩
 ·have v1:(t.k == st)=false:=by simp [h1]
  have H1:=jZ h1; clear h1
  go_enter Tryz.func215,Tryz.ntmps215
  go_wp2_with (rw [hq])
  all_goals go_ret
  all_goals exact ⟨by rw [HI.out,jE H1.out]; rfl,q.below⟩
theorem sj (t:ar) (kd:Int) (w:World):Calls xi 213 (#[t.val,O U kd]++#[]) w fun e w'=>e=.returned (O U (iQ t.k kd))∧Below w.heap.size w w':=by
 show Calls xi 213 #[t.val,O U kd] w _
 have b1:=bZ w (.cells #[O U t.k,O U t.c] 104)
 have hc:=fun W=>kl t.k kd W
 go_enter Tryz.func213,Tryz.ntmps213
 go_wp2_with fail
 refine (hc _).mono ?_
 rintro e w' ⟨rfl,rfl⟩
 go_wp2
 go_ret
 exact ⟨rfl,b1⟩
theorem iA {ts:List ar} {kd n:Int} {i:Nat} (h:ay ts kd=i) (hi:i < ts.length):aj ts kd n=ts.set i ⟨ts[i].k,ts[i].c+n⟩:=by
 unfold aj
 rw [h,if_pos oM,Int.toNat_natCast,List.getD_eq_getElem?_getD,List.getElem?_eq_getElem hi]; rfl
theorem aC.setT {w:World} {B g gT cT i:Nat} {vo:Value} {y:Oc} (h:aC w B g (F (some ⟨gT,0,none⟩) y.t.length cT) vo y) (hi:i < y.t.length) (c:Int) :
  aC (w.setCell ⟨gT,i * 2+1,none⟩ (O U c)) B g (F (some ⟨gT,0,none⟩) y.t.length cT) vo { y with t:=y.t.set i ⟨y.t[i].k,c⟩ }∧Below B w (w.setCell ⟨gT,i * 2+1,none⟩ (O U c))∧w.cell? ⟨gT,i * 2+1,none⟩=some (O U y.t[i].c)∧w.frozen? ⟨gT,i * 2+1,none⟩=false:=by
 have hj:i * 2+1 < y.t.length * 2:=oM
 have hB:B≤gT:=(h.t.lt gT rfl).1
 have xu:gT < w.heap.size:=(h.t.lt gT rfl).2
 have hg:gT ≠ g:=fun e=>h.ne_t (by rw [← e]; rfl)
 have ht:=m3 h.t (i * 2+1) (O U c) hj
 rw [uj hi] at ht
 have xC:w.grownBy (w.setCell ⟨gT,i * 2+1,none⟩ (O U c)) (some gT):=ab (World.grownBy.refl w (some gT))
 refine ⟨⟨h.lies.other (p:=⟨gT,i * 2+1,none⟩) (fun e=>hg e.symm) _,h.hg,by simpa using ht,fi (v':=F (some ⟨gT,0,none⟩) y.t.length cT) h.o h.t (Ne.symm tM) xC⟩, ?_, ?_,h.t.frozenAt _⟩
 ·exact (Below.refl B w).grown xC (Nat.le_of_lt (Nat.lt_of_le_of_lt hB xu)) (by rintro _ ⟨⟩; exact hB)
 ·rw [h.t.cellAt _ hj,fm ar.enc 2 ar.enc_len y.t i hi 1 oM]; rfl
theorem aC.setT' {w:World} {B g gT cT i:Nat} {vo:Value} {y:Oc} (h:aC w B g (F (some ⟨gT,0,none⟩) y.t.length cT) vo y) (hi:i < y.t.length) (tr:ar) (ze:y.t[i]=tr) (c:Int) :
  aC (w.setCell ⟨gT,i * 2+1,none⟩ (O U c)) B g (F (some ⟨gT,0,none⟩) y.t.length cT) vo { y with t:=y.t.set i ⟨tr.k,c⟩ }∧Below B w (w.setCell ⟨gT,i * 2+1,none⟩ (O U c))∧w.cell? ⟨gT,i * 2+1,none⟩=some (O U tr.c)∧w.frozen? ⟨gT,i * 2+1,none⟩=false:=by
 subst ze; exact h.setT hi c
theorem aC.setN {w:World} {B g:Nat} {vt vo:Value} {y:Oc} (h:aC w B g vt vo y) (c:Int) :
  aC (w.setCell ⟨g,2,none⟩ (O U c)) B g vt vo { y with gt:=c }∧aC (w.setCell ⟨g,3,none⟩ (O U c)) B g vt vo { y with sd:=c }∧aC (w.setCell ⟨g,4,none⟩ (O U c)) B g vt vo { y with ms:=c } :=
 ⟨⟨h.lies.set 2 _,h.hg,am h.t h.lies fB 2 _,am h.o h.lies fj 2 _⟩,⟨h.lies.set 3 _,h.hg,am h.t h.lies fB 3 _,am h.o h.lies fj 3 _⟩,⟨h.lies.set 4 _,h.hg,am h.t h.lies fB 4 _,am h.o h.lies fj 4 _⟩⟩
theorem aC.belowN {w:World} {B g:Nat} {vt vo:Value} {y:Oc} (h:aC w B g vt vo y) (i:Nat) (u:Value):Below B w (w.setCell ⟨g,i,none⟩ u) :=
 (Below.refl B w).grown (ab (World.grownBy.refl w (some g))) (Nat.le_of_lt (Nat.lt_of_le_of_lt h.hg h.lies.lt)) (by rintro _ ⟨⟩; exact h.hg)
theorem bK.asc {x:aN} (h:bK x):o6 x.o:=(lE x.t x.o none h.os).1
theorem bK.at_ {x:aN} (h:bK x) (st pe:Int):aW (ft st pe) x.o=aO st pe x.o:=by
 have:=mn (k:=st) (p:=pe) x.o 0 h.asc
 rwa [Int.zero_add] at this
theorem bK.at_bd {x:aN} (h:bK x) (st pe:Int):0≤aO st pe x.o∧aO st pe x.o≤9999:=by
 rcases mj (k:=st) (p:=pe) x.o with h0 | ⟨o,ho,_,hc⟩
 ·omega
 ·obtain ⟨j,hj,rfl⟩:=List.getElem_of_mem ho
  have:=(ae.bounds (h.oall j hj)).2.2
  omega
theorem bK.oc {x:aN} (h:bK x):∀ o ∈ x.o, -1000000000≤o.c∧o.c≤1000000000:=fun o ho=>by
 obtain ⟨j,hj,rfl⟩:=List.getElem_of_mem ho
 have:=(ae.bounds (h.oall j hj)).2.2
 omega
theorem dN {B g gs:Nat} {x:aN} {kd st pe va:Int} {w:World} (hL:ai w gs 112 [O U kd,O U st,O U pe,O U va]) (hA:cu w w.heap.size g x) (G:bK x) (_hB:B≤w.heap.size) :
  Calls xi 120 #[.pointer (some ⟨g,0,none⟩),.func (.func 215) #[] #[.pointer (some ⟨gs,0,none⟩)]] w fun e w'=>e=.returned (O U (aO st pe x.o))∧Below w.heap.size w w':=by
 have:=fG (ft st pe) 215 #[.pointer (some ⟨gs,0,none⟩)] Tryz.call215 x g w (fun o p=>vi o gs kd st pe va p.val (hL.below p.below hL.lt)) hA G.ol G.oall
 rwa [G.at_] at this
theorem aC.setTs {w w' : World} {B g:Nat} {vt vt' vo:Value} {y:Oc} {ts:List ar} (h:aC w B g vt vo y) (hg:w.grownBy w' vt.ownBlock) (ht:w'.ownsRow B 104 2 vt' ts.length (ts.flatMap ar.enc)) :
  aC (w'.setCell ⟨g,0,none⟩ vt') B g vt' vo { y with t:=ts }:=by
 have hL:ai w' g 40 _:=h.lies.kept hg (fun e=>h.ne_t e.symm)
 have ho:=fi h.o h.t (Ne.symm tM) hg
 exact ⟨hL.set 0 vt',h.hg,am ht hL fB 0 vt',am ho hL fj 0 vt'⟩
theorem tO {a b:Int} : iQ a b < 0 ↔ a < b:=by
 unfold iQ; split
 ·simp [*]
 ·split <;> simp [*]
theorem uk {a b:Int} : iQ a b=0 ↔ a=b:=by
 unfold iQ; split
 ·simp; omega
 ·split
  ·simp; omega
  ·simp; omega
theorem bK.ascT {x:aN} (h:bK x):xd x.t:=(kV x.t 0 0 h.ts).1
theorem sl (ts:List ar) (kd:Int):∃ h:dG ts kd < (ef ts kd).length,(ef ts kd)[dG ts kd]=⟨kd,0⟩:=by
 have hl:(ts.take (dG ts kd)).length=dG ts kd:=by rw [List.length_take,Nat.min_eq_left (kC ts kd)]
 have h:(ef ts kd)[dG ts kd]?=some ⟨kd,0⟩:=by
  unfold ef; rw [List.getElem?_append_right oM,hl,Nat.sub_self]; rfl
 exact List.getElem?_eq_some_iff.1 h
theorem qQ (ts:List ar) (kd:Int):(ef ts kd).length=ts.length+1:=by
 have:=kC ts kd
 unfold ef; simp; omega
section
variable {P:Program} {ops:Array Oper} {Q:Exit→Act→World→Prop}
def gU (P:Program) (ops:Array Oper) (Q:Exit→Act→World→Prop) (C:World→Prop) (T:World→World→Prop) (fr:(Nat→Value)→Act):Nat→List Oper→List (Value→World→Prop)→Prop
 | _,[],_=>False
 | k,o :: l,Rs=>(l = []∧∀ vs w,C w→(∀ (j:Nat) (R:Value→World→Prop),Rs[j]?=some R→R (vs j) w)→∀ K:Act→World→Prop,(∀ a' w',Q .normal a' w'→K a' w') →
   if Region.wanted o (yielded ops (fr vs).tmps)=true then o.wp P (fr vs) w K Q else K ((fr vs).put o.dst undef) w) ∨
  (∃ R:Value→World→Prop,(∀ v w w',R v w→T w w'→R v w') ∧
  (∀ vs w,C w→(∀ (j:Nat) (R' : Value→World→Prop),bU .any ops ops.size k j=true→Rs[j]?=some R'→R' (vs j) w)→∀ K:Act→World→Prop,(∀ a' v w',a'=(fr vs).put o.dst v→R v w'→C w'→T w w'→K a' w') →
   if Region.wanted o (yielded ops (fr vs).tmps)=true then o.wp P (fr vs) w K Q else K ((fr vs).put o.dst undef) w) ∧
  gU P ops Q C T fr (k+1) l (Rs++[R]))
theorem lK {C:World→Prop} {T:World→World→Prop} {fr:(Nat→Value)→Act} : ∀ (l:List Oper) (k:Nat) (Rs:List (Value→World→Prop)),(∀ i,l[i]?=ops[k+i]?)→Rs.length=k →
  (∀ (j:Nat) (R:Value→World→Prop),Rs[j]?=some R→∀ v w w',R v w→T w w'→R v w') →
  (∀ (j:Nat) (o:Oper) (R:Value→World→Prop),j < k→ops[j]?=some o→Rs[j]?=some R→∀ vs w,C w→(∀ (j' : Nat) (R' : Value→World→Prop),bU .any ops ops.size j j'=true→j' < j→Rs[j']?=some R'→R' (vs j') w)→∀ K:Act→World→Prop,(∀ a' v w',a'=(fr vs).put o.dst v→R v w'→C w'→T w w'→K a' w') →
   if Region.wanted o (yielded ops (fr vs).tmps)=true then o.wp P (fr vs) w K Q else K ((fr vs).put o.dst undef) w) →
  gU P ops Q C T fr k l Rs →
  ∃ Rs' : List (Value→World→Prop),Rs'.length+1=ops.size∧(∀ (j:Nat) (R:Value→World→Prop),Rs'[j]?=some R→∀ v w w',R v w→T w w'→R v w') ∧
  (∀ (j:Nat) (o:Oper) (R:Value→World→Prop),ops[j]?=some o→Rs'[j]?=some R→∀ vs w,C w→(∀ (j' : Nat) (R' : Value→World→Prop),bU .any ops ops.size j j'=true→j' < j→Rs'[j']?=some R'→R' (vs j') w)→∀ K:Act→World→Prop,(∀ a' v w',a'=(fr vs).put o.dst v→R v w'→C w'→T w w'→K a' w') →
   if Region.wanted o (yielded ops (fr vs).tmps)=true then o.wp P (fr vs) w K Q else K ((fr vs).put o.dst undef) w) ∧
  (∀ o,ops[Rs'.length]?=some o→∀ vs w,C w→(∀ (j:Nat) (R:Value→World→Prop),Rs'[j]?=some R→R (vs j) w)→∀ K:Act→World→Prop,(∀ a' w',Q .normal a' w'→K a' w') →
   if Region.wanted o (yielded ops (fr vs).tmps)=true then o.wp P (fr vs) w K Q else K ((fr vs).put o.dst undef) w)
 | [],k,Rs,_,_,_,_,h=>h.elim
 | o :: l,k,Rs,hl,xt,xM,BE,h=>by
  have ho:ops[k]?=some o:=by simpa using (hl 0).symm
  rcases h with ⟨rfl,hlast⟩ | ⟨R,Gs,Gt,hrest⟩
  ·have h1:ops[k+1]?=none:=by have:=hl 1; simpa using this.symm
   have hk:k < ops.size:=(Array.getElem?_eq_some_iff.1 ho).1
   have AA : ¬ k+1 < ops.size:=fun hh=>by rw [Array.getElem?_eq_getElem hh] at h1; cases h1
   refine ⟨Rs,oM,xM,fun j o R ho hR=>BE j o R ?_ ho hR,fun o' ho'=>?_⟩
   ·rw [← xt]; exact (List.getElem?_eq_some_iff.1 hR).1
   ·rw [xt,ho] at ho'; cases ho'; exact hlast
  ·have hold:∀ j,j < k→(Rs++[R])[j]?=Rs[j]?:=fun j hj=>List.getElem?_append_left oM
   have zb:(Rs++[R])[k]?=some R:=by rw [List.getElem?_append_right oM,xt]; simp
   exact lK l (k+1) (Rs++[R]) (fun i=>by have:=hl (i+1); simpa [Nat.add_assoc,Nat.add_comm 1 i] using this) (by simp [xt])
    (fun j R' xX=>by
     rcases Nat.lt_trichotomy j k with hj | hj | hj
     ·rw [hold j hj] at xX; exact xM j R' xX
     ·subst hj; rw [zb] at xX; cases xX; exact Gs
     ·rw [List.getElem?_eq_none (by simp [xt]; omega)] at xX; cases xX)
    (fun j o' R' hj ho' xX vs w hC hB K hK=>by
     rcases Nat.lt_or_ge j k with CY | CY
     ·rw [hold j CY] at xX
      exact BE j o' R' CY ho' xX vs w hC (fun j' R'' ha xu h''=>hB j' R'' ha xu (by rw [hold j' oM]; exact h'')) K hK
     ·obtain rfl:j=k:=oM
      rw [ho] at ho'; cases ho'
      rw [zb] at xX; cases xX
      refine Gt vs w hC (fun j' R'' ha h''=>?_) K hK
      have xu:j' < Rs.length:=(List.getElem?_eq_some_iff.1 h'').1
      exact hB j' R'' ha oM (by rw [hold j' oM]; exact h''))
    hrest
def qR (ops:Array Oper) (n:Nat):Bool:=(List.range n).all fun j=>bU .any ops ops.size n j
theorem qe {C:World→Prop} {T:World→World→Prop} {a₀:Act} (AM:eB ops.toList=true) (BF:fR .any ops=true) (Rs:List (Value→World→Prop)) (xt:Rs.length+1=ops.size) (JN:qR ops Rs.length=true)
  (xM:∀ (j:Nat) (R:Value→World→Prop),Rs[j]?=some R→∀ v w w',R v w→T w w'→R v w')
  (BE:∀ (j:Nat) (o:Oper) (R:Value→World→Prop),ops[j]?=some o→Rs[j]?=some R→∀ vs w,C w→(∀ (j' : Nat) (R' : Value→World→Prop),bU .any ops ops.size j j'=true→j' < j→Rs[j']?=some R'→R' (vs j') w)→∀ K:Act→World→Prop,(∀ a' v w',a'=(ax vs ops.toList 0 a₀).put o.dst v→R v w'→C w'→T w w'→K a' w') →
   if Region.wanted o (yielded ops (ax vs ops.toList 0 a₀).tmps)=true then o.wp P (ax vs ops.toList 0 a₀) w K Q else K ((ax vs ops.toList 0 a₀).put o.dst undef) w)
  (hlast:∀ o,ops[Rs.length]?=some o→∀ vs w,C w→(∀ (j:Nat) (R:Value→World→Prop),Rs[j]?=some R→R (vs j) w)→∀ K:Act→World→Prop,(∀ a' w',Q .normal a' w'→K a' w') →
   if Region.wanted o (yielded ops (ax vs ops.toList 0 a₀).tmps)=true then o.wp P (ax vs ops.toList 0 a₀) w K Q else K ((ax vs ops.toList 0 a₀).put o.dst undef) w) :
  ∀ (fuel:Nat) (listed:Array Bool) (vs:Nat→Value) (w:World),listed.size=ops.size→eR ops.size listed≤fuel→pS .any ops listed→listed.getD Rs.length false=false→C w→(∀ (j:Nat) (R:Value→World→Prop),listed.getD j false=true→Rs[j]?=some R→R (vs j) w) →
   wpAny P .any ops Q fuel listed (ax vs ops.toList 0 a₀) w:=by
 intro fuel
 induction fuel with
 | zero =>
  intro listed vs w hs hu yC hn hC hR
  have:eR ops.size (listed.setIfInBounds Rs.length true) < eR ops.size listed:=fo oM hs hn
  omega
 | succ fuel ih =>
  intro listed vs w hs hu yC hn hC hR
  refine ⟨fun hr=>?_,fun i hi=>?_⟩
  ·have:=ig BF hs hr Rs.length oM
   rw [hn] at this; cases this
  obtain ⟨h0,o,ho,yf⟩:=mem_ready.1 hi
  have CZ:i < ops.size:=(Array.getElem?_eq_some_iff.1 ho).1
  have zH:i < listed.size:=oM
  have h0' : listed.getD i false=false:=by simp only [Array.getD,zH,↓reduceDIte] at h0 ⊢; exact h0
  by_cases yw:i=Rs.length
  ·have hall' : ∀ j,j < Rs.length→listed.getD j false=true:=fun j hj=>by
    refine cK yC ops.size i j (fun o' ho'=>by rw [ho] at ho'; cases ho'; exact yf) ?_
    rw [yw]; exact List.all_eq_true.1 JN j (List.mem_range.2 hj)
   have hstep:=hlast o (by rw [← yw]; exact ho) vs w hC (fun j R hj=>hR j R (hall' j (List.getElem?_eq_some_iff.1 hj).1) hj)
    (wpAny P .any ops Q fuel (listed.setIfInBounds i true)) (fun a' w' hq=>by
     have hfull:∀ j,j ∉ Region.ready .any ops (listed.setIfInBounds i true):=fun j hj=>by
      obtain ⟨g0,o',ho',_⟩:=mem_ready.1 hj
      have IB:j < ops.size:=(Array.getElem?_eq_some_iff.1 ho').1
      have GM:j < (listed.setIfInBounds i true).size:=by simp; omega
      have g0' : (listed.setIfInBounds i true).getD j false=false:=by simp only [Array.getD,GM,↓reduceDIte] at g0 ⊢; exact g0
      by_cases zp:j=i
      ·subst zp; simp [zH] at g0'
      ·rw [getD_set_ne false (Ne.symm zp),hall' j oM] at g0'; cases g0'
     have JO:Region.ready .any ops (listed.setIfInBounds i true) = []:=List.eq_nil_iff_forall_not_mem.2 hfull
     cases fuel with
     | zero=>exact ⟨JO,hq⟩
     | succ fuel=>exact ⟨fun _=>hq,fun j hj=>absurd hj (hfull j)⟩)
   unfold wpOp
   simp only [ho]
   split
   ·rename_i hw; rw [if_pos hw] at hstep; exact .inl hstep
   ·rename_i hw; rw [if_neg hw] at hstep; exact hstep
  obtain ⟨R,EC⟩ : ∃ R,Rs[i]?=some R:=⟨Rs[i]'oM,List.getElem?_eq_getElem oM⟩
  have hstep:=BE i o R ho EC vs w hC (fun j' R' ha _ xX=>hR j' R' (cK yC ops.size i j' (fun o' ho'=>by rw [ho] at ho'; cases ho'; exact yf) ha) xX)
   (wpAny P .any ops Q fuel (listed.setIfInBounds i true)) (fun a' v w' ha Gu Da hT=>by
    rw [ha,iT ops.toList 0 a₀ vs i o v AM (by simpa using ho),Nat.zero_add]
    refine ih _ _ _ (by simpa using hs) ?_ ?_ ?_ Da ?_
    ·have:=fo CZ hs h0'; omega
    ·intro j oj Db hj e he hb
     by_cases zp:j=i
     ·subst zp; rw [ho] at Db; cases Db; exact getD_set_true (yf e he hb)
     ·rw [getD_set_ne false (Ne.symm zp)] at hj; exact getD_set_true (yC j oj Db hj e he hb)
    ·rw [getD_set_ne false (fun h=>yw h)]; exact hn
    ·intro j R' hj xX
     by_cases zp:j=i
     ·subst zp; rw [EC] at xX; cases xX; simpa [r3] using Gu
     ·rw [getD_set_ne false (Ne.symm zp)] at hj
      have:=xM j R' xX _ _ _ (hR j R' hj xX) hT
      simpa [r3,zp] using this)
  unfold wpOp
  simp only [ho]
  split
  ·rename_i hw; rw [if_pos hw] at hstep; exact .inl hstep
  ·rename_i hw; rw [if_neg hw] at hstep; exact hstep
theorem fx {id:Nat} {a:Act} {w:World} {l:List Oper} (C:World→Prop) (T:World→World→Prop) (hm:P.follows .mixedOrders=true) (hap:eB l=true) (hdn:fR .any l.toArray=true) (hah:qR l.toArray (l.length - 1)=true)
    (hC:C w.drew) (h:gU P l.toArray Q C T (fun vs=>ax vs l 0 a) 0 l []):(Code.region id l.toArray true).wp P Q a w:=by
  refine wp_region_any hm ?_
  obtain ⟨Rs,h1,h2,h3,h4⟩:=lK (ops:=l.toArray) l 0 [] (by simp) rfl (by simp) (by simp) h
  obtain ⟨vs,hvs⟩ : ∃ vs:Nat→Value,∀ i o t,l[i]?=some o→o.dst=some t→vs (0+i)=a.tmps.getD t undef :=
    ⟨fun i=>match (l[i]?).bind (·.dst) with | some t=>a.tmps.getD t undef | none=>undef,fun i o t hi ht=>by simp [hi,ht]⟩
  have hl1 : Rs.length = l.length - 1 := by have h1' : Rs.length + 1 = l.length := by simpa using h1
                                            omega
  have:=qe (P:=P) (Q:=Q) (ops:=l.toArray) (C:=C) (T:=T) (a₀:=a) hap hdn Rs h1 (by rw [hl1]; exact hah) h2 h3 h4 l.toArray.size (Array.replicate l.toArray.size false) vs w.drew (by simp)
    (Nat.le_trans (List.length_filter_le _ _) (by simp)) (fun j o hj hl=>by simp [Array.getD] at hl) (by simp [Array.getD]) hC (fun j R hl=>by simp [Array.getD] at hl)
  rwa [ie vs _ 0 a (by simpa using hvs)] at this
theorem gM {C : World → Prop} {T : World → World → Prop} {fr : (Nat → Value) → Act} {k : Nat} {o : Oper} {Rs : List (Value → World → Prop)} (h : ∀ vs w, C w → (∀ (j : Nat) (R : Value → World → Prop), Rs[j]? = some R → R (vs j) w) → ∀ K : Act → World → Prop, (∀ a' w', Q .normal a' w' → K a' w') →
      if Region.wanted o (yielded ops (fr vs).tmps)=true then o.wp P (fr vs) w K Q else K ((fr vs).put o.dst undef) w):gU P ops Q C T fr k [o] Rs:=.inl ⟨rfl,h⟩
theorem aG {C:World→Prop} {T:World→World→Prop} {fr:(Nat→Value)→Act} {k:Nat} {o:Oper} {l:List Oper} {Rs:List (Value→World→Prop)} (V:Value)
  (h1:∀ vs w,C w→(∀ (j:Nat) (R' : Value→World→Prop),bU .any ops ops.size k j=true→Rs[j]?=some R'→R' (vs j) w)→∀ K:Act→World→Prop,(∀ a' w',a'=(fr vs).put o.dst V→C w'→T w w'→K a' w') →
   if Region.wanted o (yielded ops (fr vs).tmps)=true then o.wp P (fr vs) w K Q else K ((fr vs).put o.dst undef) w)
  (h2:gU P ops Q C T fr (k+1) l (Rs++[fun v _=>v=V])):gU P ops Q C T fr k (o :: l) Rs :=
 .inr ⟨fun v _=>v=V,fun _ _ _ h _=>h,fun vs w hC hB K hK=>h1 vs w hC hB K fun a' w' ha Da hT=>hK a' V w' ha rfl Da hT,h2⟩
theorem cH {C:World→Prop} {T:World→World→Prop} {fr:(Nat→Value)→Act} {k:Nat} {o:Oper} {l:List Oper} {Rs:List (Value→World→Prop)} (R:Value→World→Prop) (hR:∀ v w w',R v w→T w w'→R v w')
  (h1:∀ vs w,C w→(∀ (j:Nat) (R' : Value→World→Prop),bU .any ops ops.size k j=true→Rs[j]?=some R'→R' (vs j) w)→∀ K:Act→World→Prop,(∀ a' v w',a'=(fr vs).put o.dst v→R v w'→C w'→T w w'→K a' w') →
   if Region.wanted o (yielded ops (fr vs).tmps)=true then o.wp P (fr vs) w K Q else K ((fr vs).put o.dst undef) w)
  (h2:gU P ops Q C T fr (k+1) l (Rs++[R])):gU P ops Q C T fr k (o :: l) Rs :=
 .inr ⟨R,hR,h1,h2⟩
end
theorem lL {P:Program} {ops:Array Oper} {tm:Array Value} {o:Oper} {a:Act} {w:World} {K:Act→World→Prop} {Q:Exit→Act→World→Prop} {E:Prop}
  (hg:o.guard=none) (s x:Operand) (t:TypeId) (ho:o.op=.call { callee:=.builtin .append,args:=#[s,x],argTypes:=#[t,t] })
  (e:TypeId) (z:Value) (k bytes:Nat) (ht:P.underlying t=some (.slice e)) (hinfo:(P.info? e).map (fun i=>(i.zero,i.size,i.bytes))=some (some z,k,bytes)) (yM:z.cells.size=k) (xY:0 < k) (Be:bytes≤1000)
  (B g:Nat) (hs:a.eval s=F (some ⟨g,0,none⟩) 0 0) (hL:ai w g e []) (hB:B≤g)
  (S:Nat) (A:Option Addr) (m c:Nat) (cs:List Value) (hx:a.eval x=F A m c) (hr:bi w S k A m cs) (h1:∀ u ∈ cs,u.oneCell'=true) (hm:m≤1000000)
  (h:∀ v' w',w'.ownsRow B e k v' m cs→Below w.heap.size w w'→K (a.put o.dst v') w'):if Region.wanted o (yielded ops tm)=true then o.wp P a w K Q else E:=by
 have hw:∀ tm:Array Value,Region.wanted o (yielded ops tm)=true:=fun tm=>by simp [Region.wanted,hg]
 rw [if_pos (hw _)]
 obtain ⟨i,hi,hz,hs',hb⟩:=info_parts hinfo
 have hbytes:(0+m) * bytes≤140737488355328:=by have:=Nat.mul_le_mul (show 0+m≤1000000 by omega) Be; omega
 have xu:=hL.lt
 rcases Nat.eq_zero_or_pos m with h0 | h0
 ·subst h0
  have hc0:cs = []:=List.eq_nil_of_length_eq_zero (by simpa using hr.len)
  subst hc0
  have xH:w.ownsRow B e k (F (some ⟨g,0,none⟩) 0 0) 0 []:=dI hL hB
  have xZ:(Builtin.append_ #[t,t] o.type #[F (some ⟨g,0,none⟩) 0 0,F A 0 c]).run P w=.ok (F (some ⟨g,0,none⟩) 0 0) w:=by
   rcases A with _ | ad
   ·exact iV w B t o.type e i k ht hi _ 0 [] xH c
   ·simp [Builtin.append_,run_underlying ht,sizeOf,typeInfo,hi,Builtin.lenOf,Builtin.firstCells,loadCells,loadCellsFrom,storeCells]
  unfold Oper.wp execOp
  simp only [ho,resolve,invoke,builtin,Sem.run_bind,Sem.run_pure,Result.andThen_ok,List.map_toArray,List.map_cons,List.map_nil,hs,hx,xZ]
  exact h _ _ xH jB
 ·obtain ⟨b,off,rfl,hlt',hcell⟩:=hr.at_ h0
  have key:=step_append_grows (P:=P) (ops:=ops) (a:=a) (w:=w) (K:=K) (Q:=Q) (E:=E) hg s x t ho e i z k bytes ht hi hz hs' hb yM xY (some ⟨g,0,none⟩) 0 0 [] hs sP sP sP ⟨b,off,none⟩ m c cs hx hr.len (fun j u hu=>by rw [cP]; exact hcell j u hu) h1 oM (by unfold maxLen; omega) hbytes (fun v' w' h2 h3=>by
   rw [Nat.zero_add,List.nil_append] at h2
   exact h v' w' (ag h2 oM) (jB.grown h3 nR (fun j hj=>by cases hj)))
  rw [if_pos (hw _)] at key
  exact key
def ej (w:World) (y:Oc) (e:Ending) (w' : World):Prop :=
 ∃ TA tc OA oc,e=.returned (y.at TA tc OA oc).val∧w'.ownsRow w.heap.size 104 2 (F TA y.t.length tc) y.t.length (y.t.flatMap ar.enc)∧w'.ownsRow w.heap.size 147 3 (F OA y.o.length oc) y.o.length (y.o.flatMap ae.enc)∧Below w.heap.size w w'
theorem cd:104 ≠ 40:=dD
theorem ch:147 ≠ 40:=dD
set_option maxRecDepth 100000 in
theorem jK (x:aN) (w:World) (h:aQ w w.heap.size x) (tl:x.t.length≤1000000) (ol:x.o.length≤1000000) :
  Calls xi 81 #[x.val] w (ej w x.c):=by
 have L1:=(ai.new w 40 #[F x.TA x.t.length x.tc,F x.OA x.o.length x.oc,O U x.gt,O U x.sd,O U x.ms]).alloc (.cells #[F none 0 0,F none 0 0,O U 0,O U 0,O U 0] 40)
 have L2:=ai.new1 w (.cells #[F x.TA x.t.length x.tc,F x.OA x.o.length x.oc,O U x.gt,O U x.sd,O U x.ms] 40) 40 #[F none 0 0,F none 0 0,O U 0,O U 0,O U 0]
 have b1:=bZ w (.cells #[F x.TA x.t.length x.tc,F x.OA x.o.length x.oc,O U x.gt,O U x.sd,O U x.ms] 40)
 have b2:=b1.alloc b1.size (.cells #[F none 0 0,F none 0 0,O U 0,O U 0,O U 0] 40)
 clear b1
 go_enter Tryz.func81,Tryz.ntmps81
 go_wp2_with fail
 generalize ((w.alloc (.cells #[F x.TA x.t.length x.tc,F x.OA x.o.length x.oc,O U x.gt,O U x.sd,O U x.ms] 40)).alloc (.cells #[F none 0 0,F none 0 0,O U 0,O U 0,O U 0] 40))=W at L1 L2 b2 ⊢
 have hR:=h.up b2 nR
 have hT:=hR.ts
 have hO:=hR.os
 have l1:=L1.lt
 have l2:=L2.lt
 clear h hR
 refine fx (fun W9=>Below W.heap.size W W9) (fun w1 w2=>Below w1.heap.size w1 w2) kZ kZ kZ kZ jB.drew ?_
 simp only [ax,Act.put,sA,gs0,gs1,Nat.zero_add,Nat.reduceAdd]
 refine cH (fun v w9=>∃ g,v=F (some ⟨g,0,none⟩) 0 0∧w.heap.size≤g∧ai w9 g 104 []) (fun v w1 w2 hv y9=>by obtain ⟨g,e,hg,hl⟩:=hv; exact ⟨g,e,hg,hl.below y9 hl.lt⟩) (fun vs w9 xj hB K9 xk=>?_) ?_
 ·go_simp
  exact xk _ _ _ rfl ⟨_,rfl,jT b2.size xj.size,ai.new w9 104 #[]⟩ (xj.alloc xj.size _) (jB.alloc nR _)
 refine aG (.pointer (some ⟨w.heap.size,0,none⟩)) (fun vs w9 xj hB K9 xk=>?_) ?_
 ·go_simp
  exact xk _ _ rfl xj jB
 refine aG (F x.TA x.t.length x.tc) (fun vs w9 xj hB K9 xk=>?_) ?_
 ·have hd:=hB 1 _ kZ rfl
  simp only [hd] at xk ⊢
  have q1:w9.cell? ⟨w.heap.size,0,none⟩=some (F x.TA x.t.length x.tc):=(L1.below xj L1.lt).cell 0
  go_simp
  exact xk _ _ rfl xj jB
 refine cH (fun v w9=>∃ A c,v=F A x.t.length c∧w9.ownsRow w.heap.size 104 2 (F A x.t.length c) x.t.length (x.t.flatMap ar.enc)) (fun v w1 w2 hv y9=>by obtain ⟨A,c,e,ho⟩:=hv; exact ⟨A,c,e,ac ho y9⟩) (fun vs w9 xj hB K9 xk=>?_) ?_
 ·obtain ⟨g,e0,hg,hl⟩:=hB 0 _ kZ rfl
  have hd:=hB 2 _ kZ rfl
  simp only [e0,hd] at xk ⊢
  refine lL rfl (.tmp 3) (.tmp 5) 37 rfl 104 _ 2 16 Tryz.underlying37 dO rfl oM oM w.heap.size g (by rfl) hl hg W.heap.size x.TA x.t.length x.tc (x.t.flatMap ar.enc) (by rfl) (bi.below hT xj) eJ tl ?_
  intro v' w' ho hb
  obtain ⟨A',c',rfl⟩:=az ho
  exact xk _ _ _ rfl ⟨A',c',rfl,ho⟩ (xj.trans (hb.mono xj.size)) hb
 refine cH (fun v w9=>∃ g,v=F (some ⟨g,0,none⟩) 0 0∧w.heap.size≤g∧ai w9 g 147 []) (fun v w1 w2 hv y9=>by obtain ⟨g,e,hg,hl⟩:=hv; exact ⟨g,e,hg,hl.below y9 hl.lt⟩) (fun vs w9 xj hB K9 xk=>?_) ?_
 ·go_simp
  exact xk _ _ _ rfl ⟨_,rfl,jT b2.size xj.size,ai.new w9 147 #[]⟩ (xj.alloc xj.size _) (jB.alloc nR _)
 refine aG (.pointer (some ⟨w.heap.size,1,none⟩)) (fun vs w9 xj hB K9 xk=>?_) ?_
 ·go_simp
  exact xk _ _ rfl xj jB
 refine aG (F x.OA x.o.length x.oc) (fun vs w9 xj hB K9 xk=>?_) ?_
 ·have hd:=hB 5 _ kZ rfl
  simp only [hd] at xk ⊢
  have q1:w9.cell? ⟨w.heap.size,1,none⟩=some (F x.OA x.o.length x.oc):=(L1.below xj L1.lt).cell 1
  go_simp
  exact xk _ _ rfl xj jB
 refine cH (fun v w9=>∃ A c,v=F A x.o.length c∧w9.ownsRow w.heap.size 147 3 (F A x.o.length c) x.o.length (x.o.flatMap ae.enc)) (fun v w1 w2 hv y9=>by obtain ⟨A,c,e,ho⟩:=hv; exact ⟨A,c,e,ac ho y9⟩) (fun vs w9 xj hB K9 xk=>?_) ?_
 ·obtain ⟨g,e0,hg,hl⟩:=hB 4 _ kZ rfl
  have hd:=hB 6 _ kZ rfl
  simp only [e0,hd] at xk ⊢
  refine lL rfl (.tmp 7) (.tmp 9) 38 rfl 147 _ 3 24 Tryz.underlying38 ew rfl oM oM w.heap.size g (by rfl) hl hg W.heap.size x.OA x.o.length x.oc (x.o.flatMap ae.enc) (by rfl) (bi.below hO xj) fw ol ?_
  intro v' w' ho hb
  obtain ⟨A',c',rfl⟩:=az ho
  exact xk _ _ _ rfl ⟨A',c',rfl,ho⟩ (xj.trans (hb.mono xj.size)) hb
 refine aG (.pointer (some ⟨w.heap.size,2,none⟩)) (fun vs w9 xj hB K9 xk=>?_) ?_
 ·go_simp
  exact xk _ _ rfl xj jB
 refine aG (O U x.gt) (fun vs w9 xj hB K9 xk=>?_) ?_
 ·have hd:=hB 8 _ kZ rfl
  simp only [hd] at xk ⊢
  have q1:w9.cell? ⟨w.heap.size,2,none⟩=some (O U x.gt):=(L1.below xj L1.lt).cell 2
  go_simp
  exact xk _ _ rfl xj jB
 refine aG (.pointer (some ⟨w.heap.size,3,none⟩)) (fun vs w9 xj hB K9 xk=>?_) ?_
 ·go_simp
  exact xk _ _ rfl xj jB
 refine aG (O U x.sd) (fun vs w9 xj hB K9 xk=>?_) ?_
 ·have hd:=hB 10 _ kZ rfl
  simp only [hd] at xk ⊢
  have q1:w9.cell? ⟨w.heap.size,3,none⟩=some (O U x.sd):=(L1.below xj L1.lt).cell 3
  go_simp
  exact xk _ _ rfl xj jB
 refine aG (.pointer (some ⟨w.heap.size,4,none⟩)) (fun vs w9 xj hB K9 xk=>?_) ?_
 ·go_simp
  exact xk _ _ rfl xj jB
 refine aG (O U x.ms) (fun vs w9 xj hB K9 xk=>?_) ?_
 ·have hd:=hB 12 _ kZ rfl
  simp only [hd] at xk ⊢
  have q1:w9.cell? ⟨w.heap.size,4,none⟩=some (O U x.ms):=(L1.below xj L1.lt).cell 4
  go_simp
  exact xk _ _ rfl xj jB
 refine cH (fun v w9=>∃ A c A' c',v=.agg #[F A x.t.length c,F A' x.o.length c',O U x.gt,O U x.sd,O U x.ms]∧w9.ownsRow w.heap.size 104 2 (F A x.t.length c) x.t.length (x.t.flatMap ar.enc)∧w9.ownsRow w.heap.size 147 3 (F A' x.o.length c') x.o.length (x.o.flatMap ae.enc))
  (fun v w1 w2 hv y9=>by obtain ⟨A,c,A',c',e,ho,hp⟩:=hv; exact ⟨A,c,A',c',e,ac ho y9,ac hp y9⟩) (fun vs w9 xj hB K9 xk=>?_) ?_
 ·obtain ⟨A,c,e3,ho⟩:=hB 3 _ kZ rfl
  obtain ⟨A',c',e7,hp⟩:=hB 7 _ kZ rfl
  have d9:=hB 9 _ kZ rfl
  have d11:=hB 11 _ kZ rfl
  have d13:=hB 13 _ kZ rfl
  have ho:=jZ ho
  have hp:=jZ hp
  simp only [e3,e7,d9,d11,d13] at xk ⊢
  go_simp
  exact xk _ _ _ rfl ⟨A,c,A',c',rfl,ho.out,hp.out⟩ xj jB
 refine gM (fun vs w9 xj hB K9 xk=>?_)
 obtain ⟨A,c,A',c',e14,ho,hp⟩:=hB 14 _ rfl
 simp only [e14] at xk ⊢
 have xx:=L2.below xj L2.lt
 have z0:=xx.cell 0
 have z1:=xx.cell 1
 have z2:=xx.cell 2
 have z3:=xx.cell 3
 have z4:=xx.cell 4
 obtain ⟨f0,f1,f2,f3,f4⟩:=frz5 xx
 simp only [gz0,gz1] at z0 z1 z2 z3 z4
 have xC:=(gw5 w9 (w.heap.size+1) (F A x.t.length c) (F A' x.o.length c') (O U x.gt) (O U x.sd) (O U x.ms))
 have bw:=b2.trans (xj.mono b2.size)
 have bz:=bw.grown xC bw.size (by rintro _ ⟨⟩; omega)
 have R8:=jZ (ak ho xx cd xC)
 have R9:=jZ (ak hp xx ch xC)
 clear xC ho hp hB xx
 go_simp
 refine xk _ _ ?_
 clear xk K9
 go_wp2
 refine bodyPost_ret (v:=.agg #[F A x.t.length c,F A' x.o.length c',O U x.gt,O U x.sd,O U x.ms]) (by simp [results,Tryz.results81,go_sem, *]) rfl ?_
 exact ⟨A,c,A',c',rfl,R8.out,R9.out,bz⟩
theorem ai.apart {w:World} {g g' : Nat} {t t' : TypeId} {cs cs' : List Value} (h:ai w g t cs) (h' : ai w g' t' cs') (xw:t ≠ t'):g ≠ g':=by
 intro e
 subst e
 unfold ai at h h'
 rw [h] at h'
 injection h' with h'; injection h' with _ h2; exact xw h2
theorem ne_to:104 ≠ 147:=dD
theorem vj:147 ≠ 104:=dD
set_option linter.unusedSimpArgs false
def iX (y:Oc) (s:de):Oc × Bool :=
 if s.kind=2 then (⟨aj y.t s.stamp (-s.value),aL s.stamp s.person (aO s.stamp s.person y.o+s.value) y.o,y.gt,y.sd,y.ms⟩,true)
 else if s.kind=3 then (⟨aj y.t s.stamp s.value,aL s.stamp s.person (aO s.stamp s.person y.o - s.value) y.o,y.gt,y.sd,y.ms⟩,decide (s.value≤aO s.stamp s.person y.o))
 else if s.kind=5 then (⟨y.t,aL s.stamp s.person 0 y.o,y.gt,y.sd,y.ms+aO s.stamp s.person y.o⟩,decide (0 < aO s.stamp s.person y.o))
 else if s.kind=6 then (⟨y.t,aL s.stamp s.value (aO s.stamp s.value (aL s.stamp s.person 0 y.o)+aO s.stamp s.person y.o) (aL s.stamp s.person 0 y.o),y.gt,y.sd,y.ms⟩,decide (0 < aO s.stamp s.person y.o) && decide (s.value ≠ s.person))
 else (⟨y.t,aL s.stamp s.person (aO s.stamp s.person y.o - s.value) y.o,y.gt,y.sd+s.value,y.ms⟩,decide (s.value≤aO s.stamp s.person y.o))
def gj (y:Oc) (s:de):Oc × Bool :=
 if s.kind=1 then (⟨aj y.t s.stamp s.value,y.o,y.gt+s.value,y.sd,y.ms⟩,(⟨aj y.t s.stamp s.value,y.o,y.gt+s.value,y.sd,y.ms⟩ : Oc).good)
 else if ay y.t s.stamp < 0 then (y,false)
 else if s.person=0 then (⟨aj y.t s.stamp (-s.value),y.o,y.gt,y.sd+s.value,y.ms⟩,(⟨aj y.t s.stamp (-s.value),y.o,y.gt,y.sd+s.value,y.ms⟩ : Oc).good)
 else ((iX y s).1,(iX y s).2 && (iX y s).1.good)
def qT (R:Oc × Bool):Option Oc:=if R.2 then some R.1 else none
theorem qf {k p c:Int} (hc:c ≠ 0):∀ l:List ae,(⟨k,p,c⟩ : ae) ∈ aL k p c l
 | []=>by simp [aL,hc]
 | o :: l=>by
  rw [aL]
  split
  ·simp
  ·split
   ·exact qf hc l
   ·exact List.mem_cons_of_mem _ (qf hc l)
theorem tP {ts:List ar} {k p c:Int} (hc:c < 0) (l:List ae):fh ts (aL k p c l)=false:=by
 cases h:fh ts (aL k p c l) with
 | false=>rfl
 | true =>
  obtain ⟨i,hi,e⟩:=List.mem_iff_getElem.1 (qf (k:=k) (p:=p) (c:=c) oM l)
  have h1:=gf _ _ _ h i hi
  rw [e] at h1
  have:=(ae.bounds h1).2.2.1
  simp only at this
  omega
theorem Oc.bad {y:Oc} (h:fh y.t y.o=false):y.good=false:=by
 show ap _=false
 unfold ap
 rw [show fh (y.at none 0 none 0).t (y.at none 0 none 0).o=false from h]
 simp
theorem qU (x:aN) (s:de) (G:bK x) (hs:s.okS=true):qT (gj x.c s)=if s.ok then bm x.c s else none:=by
 obtain ⟨xM,hI⟩:=de.okS_is hs
 have xq:=de.ok_okS s
 rw [hs,Bool.true_and] at xq
 obtain ⟨kd,st,pe,va⟩:=s
 have hA:=G.asc
 obtain ⟨n0,n1⟩:=G.at_bd st pe
 unfold gj bm qT Oc.fin iX
 simp only at xq
 simp only [aN.c]
 obtain ⟨n,hn⟩ : ∃ n,aO st pe x.o=n:=⟨_,rfl⟩
 simp only [hn] at n0 n1 ⊢
 by_cases hT:ay x.t st < 0
 ·cases hI with
  | get hk hp hv=>simp only at hk; subst hk; simp [xq]; rfl
  | show_ hk hp hv=>simp only at hk; subst hk; simp [hT,xq]
  | back hk hp hv=>simp only at hk; subst hk; simp [hT,xq]
  | sell0 hk hp hv=>simp only at hk; subst hk; simp [hT,xq]
  | sell hk hp hv=>simp only at hk; subst hk; simp [hT,xq]
  | miss hk hp hv=>simp only at hk; subst hk; simp [hT,xq]
  | move hk hp hv=>simp only at hk; subst hk; simp [hT]
 ·have y9 : 0≤ay x.t st:=oM
  cases hI with
  | get hk hp hv=>simp only at hk; subst hk; simp [xq]; rfl
  | show_ hk hp hv =>
   simp only at hk hp hv; subst hk
   have e:=gS (k:=st) (p:=pe) (by_:=va) x.o hA (fun _=>by omega)
   rw [hn] at e
   have Bo : ¬ pe=0:=oM
   simp [hT,y9,xq,e,Bo]
  | back hk hp hv =>
   simp only at hk hp hv; subst hk
   have Bo : ¬ pe=0:=oM
   by_cases hz:n=0
   ·have h1 : ¬ va≤n:=oM
    have h2:0 < pe:=oM
    simp [hT,y9,xq,Bo,hz,h1,h2]
    omega
   ·have e:=gS (k:=st) (p:=pe) (by_:=-va) x.o hA (fun h=>by omega)
    rw [hn,← Int.sub_eq_add_neg] at e
    by_cases h1:va≤n
    ·simp [hT,y9,xq,Bo,hz,h1,e]
    ·have hb:(⟨aj x.t st va,aL st pe (n - va) x.o,x.gt,x.sd,x.ms⟩ : Oc).good=false:=Oc.bad (tP oM _)
     simp [hT,y9,xq,Bo,hz,h1,e,hb]
  | sell0 hk hp hv=>simp only at hk hp; subst hk; subst hp; simp [hT,y9,xq]; rfl
  | sell hk hp hv =>
   simp only at hk hp hv; subst hk
   have Bo : ¬ pe=0:=oM
   by_cases hz:n=0
   ·have h1 : ¬ va≤n:=oM
    have h2:0 < pe:=oM
    simp [hT,y9,xq,Bo,hz,h1,h2]
    omega
   ·have e:=gS (k:=st) (p:=pe) (by_:=-va) x.o hA (fun h=>by omega)
    rw [hn,← Int.sub_eq_add_neg] at e
    by_cases h1:va≤n
    ·simp [hT,y9,xq,Bo,hz,h1,e]
    ·have hb:(⟨x.t,aL st pe (n - va) x.o,x.gt,x.sd+va,x.ms⟩ : Oc).good=false:=Oc.bad (tP oM _)
     simp [hT,y9,xq,Bo,hz,h1,e,hb]
  | miss hk hp hv =>
   simp only at hk hp hv; subst hk
   have Bo : ¬ pe=0:=oM
   have h2:0 < pe:=oM
   by_cases hz:n=0
   ·simp [hT,y9,xq,Bo,hz,h2]
   ·have e:=gS (k:=st) (p:=pe) (by_:=-n) x.o hA (fun h=>by omega)
    rw [hn,show n+-n=0 by omega] at e
    have h1:0 < n:=oM
    simp [hT,y9,xq,Bo,hz,h1,e]
  | move hk hp hv =>
   simp only at hk hp hv; subst hk
   have Bo : ¬ pe=0:=oM
   have h2:0 < pe:=oM
   by_cases hq:va=pe
   ·subst hq
    simp [hT,Bo,xq]
   ·by_cases hz:n=0
    ·simp [hT,y9,xq,Bo,hz,h2]
    ·have e:=gS (k:=st) (p:=pe) (by_:=-n) x.o hA (fun h=>by omega)
     rw [hn,show n+-n=0 by omega] at e
     have JP : o6 (aL st pe 0 x.o):=List.Pairwise.sublist (fu _) hA
     have e2:=gS (k:=st) (p:=va) (by_:=n) (aL st pe 0 x.o) JP (fun _=>hz)
     have h1:0 < n:=oM
     simp [hT,y9,xq,Bo,hz,h1,hq,e,e2]
end Go.Proofs.YtoeoimhemojdeaaGreatDoor
