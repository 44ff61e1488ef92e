/- Lemmas. -/
import Derived.StillTailTactics
import Derived.Test.YtoeoimhemojdeaaGreatDoorFc10

set_option linter.unusedVariables false
set_option linter.unusedSimpArgs false
set_option maxHeartbeats 8000000
open Go.Value renaming int → O, slice → F, string → vw
open Go.IntKind renaming i64 → U
open Go.Proofs.Tryz renaming prog → vx

namespace Go.Proofs.YtoeoimhemojdeaaGreatDoor
open Go.RowKit
set_option maxRecDepth 100000 in
theorem kY (cf:ae→Int) (tg:ae) (g:Nat) (lb:Array Value) (eg:∀ args w,(callFunc g args).run vx w=.ok (.enter g args) w) (A:Option Addr) (c:Nat) (l:List ae) (w:World)
  (hf:∀ (t:ae) (p:ap w.heap.size w),Calls vx g (#[t.val,tg.val]++lb) p.val fun e w'=>e=.returned (O U (cf t))∧Below p.val.heap.size p.val w') (h:dZ w w.heap.size A l) (hl:l.length≤1000000)
  (b:Nat) (hb:b≤l.length) (zn:∀ i (h:i < l.length),i < b→cf l[i] < 0) (As:∀ i (h:i < l.length),b≤i→¬ cf l[i] < 0) (fd:Bool) (At:∀ h:b < l.length,fd=decide (cf l[b]=0)) (hfd' : b=l.length→fd=false) :
  Calls vx 235 #[F A l.length c,tg.val,.func (.func g) #[] lb] w fun e w'=>e=.returned (.tuple #[O U b,.bool fd])∧Below w.heap.size w w':=by
 have b0:=bZ w (.cells #[O U tg.k,O U tg.p,O U tg.c] 147)
 have Di:=ah.new w 147 #[O U tg.k,O U tg.p,O U tg.c]
 have HC:=jZ hf; clear hf
 have GM:=jZ zn; clear zn
 have GN:=jZ As; clear As
 have GO:=jZ At; clear At
 have HFD':=jZ hfd'; clear hfd'
 go_enter Tryz.func235,Tryz.ntmps235
 go_wp2
 have h0:=bn.up h b0 nR
 generalize w.alloc (.cells #[O U tg.k,O U tg.p,O U tg.c] 147)=W at b0 Di h0 ⊢
 have xi:=(show dZ W W.heap.size A l from h0).el
 obtain ⟨d0,d1,d2⟩:=fP.of (r:=tg) Di
 go_loopw [9,10] (fun s9 s10 wr=>∃ lo hi:Nat,s9=O U lo∧s10=O U hi∧lo≤b∧b≤hi∧hi≤l.length∧(∃ q:ap W.heap.size W,wr=q.val)) (fun s9 s10 _=>(intOf s10).toNat - (intOf s9).toNat)
 case atStart=>exact ⟨0,l.length,rfl,rfl,Nat.zero_le _,hb,Nat.le_refl _,ap.start _ _,rfl⟩
 case round =>
  obtain ⟨lo,hi,rfl,rfl,h1,h2,h3,⟨q,rfl⟩⟩:=hrel
  by_cases vH:lo < hi
  ·have hm:(lo+hi) / 2 < l.length:=oM
   obtain ⟨bb,off,rfl,xy,hcell⟩:=xi oM
   obtain ⟨c0,c1,c2⟩:=hcell ((lo+hi) / 2) hm
   have k1:cf l[(lo+hi) / 2] < 0→(lo+hi) / 2+1≤b:=fun hv=>by
    rcases Nat.lt_or_ge ((lo+hi) / 2) b with h | h
    ·exact h
    ·have:=GN.out _ hm h; omega
   have k2 : ¬ cf l[(lo+hi) / 2] < 0→b≤(lo+hi) / 2:=fun hv=>by
    rcases Nat.lt_or_ge ((lo+hi) / 2) b with h | h
    ·have:=GM.out _ hm h; omega
    ·exact h
   obtain ⟨x,x9⟩ : ∃ x,x=l[(lo+hi) / 2]:=⟨_,rfl⟩
   rw [← x9] at c0 c1 c2 k1 k2
   have yR:=fun p:ap W.heap.size W=>HC.out x ⟨p.val,b0.trans (p.below.mono b0.size)⟩
   obtain ⟨V,hV⟩ : ∃ V,cf x=V:=⟨_,rfl⟩
   have EG:Hid (Value.int .i64 (cf x)=O U V):=by rw [hV]; rfl
   rw [hV] at k1 k2
   have hX:=jZ hV; clear hV
   clear x9 hcell xi
   by_cases hv:V < 0
   ·have K:=k1 hv
    clear k1 k2
    go_wp2
    refine bm _ kZ kZ ?_
    repeat (any_goals (first | go_big_quiet_step ((with_reducible refine aU EG nR (yR _))) | (refine wpQuiet_step (fun K hK=>?_); go_simp; split <;> (refine hK _ ?_; clear hK K))))
    all_goals (refine wpQuiet_nil ?_; rintro _ ⟨q1,rfl⟩)
    all_goals go_wp2
    go_roundw
    case rel=>exact ⟨(lo+hi) / 2+1,hi,by go_num,rfl,K,h2,h3,⟨q1,rfl⟩⟩
    case measure=>simp [intOf]; omega
   ·have K:=k2 hv
    clear k1 k2
    go_wp2
    refine bm _ kZ kZ ?_
    repeat (any_goals (first | go_big_quiet_step ((with_reducible refine aU EG nR (yR _))) | (refine wpQuiet_step (fun K hK=>?_); go_simp; split <;> (refine hK _ ?_; clear hK K))))
    all_goals (refine wpQuiet_nil ?_; rintro _ ⟨q1,rfl⟩)
    all_goals go_wp2
    go_roundw
    case rel=>exact ⟨lo,(lo+hi) / 2,rfl,by go_num,h1,K,oM,⟨q1,rfl⟩⟩
    case measure=>simp [intOf]; omega
  ·obtain rfl:hi=b:=oM
   obtain rfl:lo=hi:=oM
   by_cases Au:lo < l.length
   ·obtain ⟨bb,off,rfl,xy,hcell⟩:=xi oM
    obtain ⟨c0,c1,c2⟩:=hcell lo Au
    have HE:=jZ (GO.out Au)
    obtain ⟨x,x9⟩ : ∃ x,x=l[lo]:=⟨_,rfl⟩
    rw [← x9] at c0 c1 c2 HE
    have yR:=fun p:ap W.heap.size W=>HC.out x ⟨p.val,b0.trans (p.below.mono b0.size)⟩
    obtain ⟨V,hV⟩ : ∃ V,cf x=V:=⟨_,rfl⟩
    have EG:Hid (Value.int .i64 (cf x)=O U V):=by rw [hV]; rfl
    rw [hV] at HE
    have hX:=jZ hV; clear hV
    clear x9 hcell xi
    by_cases hv:V=0
    ·have hv' : (V == 0)=true:=by simp [hv]
     have HV:Hid (fd=true):=by unfold Hid; rw [HE.out,jD hv]
     clear hv
     go_wp2
     refine bm _ kZ kZ ?_
     repeat (any_goals (first | go_big_quiet_step ((with_reducible refine aU EG nR (yR _))) | (refine wpQuiet_step (fun K hK=>?_); go_simp; split <;> (refine hK _ ?_; clear hK K))))
     all_goals (refine wpQuiet_nil ?_; rintro _ ⟨q1,rfl⟩)
     all_goals go_wp2
     go_ret2
     exact ⟨by rw [HV.out]; rfl,b0.trans (q1.below.mono b0.size)⟩
    ·have hv' : (V == 0)=false:=by simp [hv]
     have HV:Hid (fd=false):=by unfold Hid; rw [HE.out,jE hv]
     clear hv
     go_wp2
     refine bm _ kZ kZ ?_
     repeat (any_goals (first | go_big_quiet_step ((with_reducible refine aU EG nR (yR _))) | (refine wpQuiet_step (fun K hK=>?_); go_simp; split <;> (refine hK _ ?_; clear hK K))))
     all_goals (refine wpQuiet_nil ?_; rintro _ ⟨q1,rfl⟩)
     all_goals go_wp2
     go_ret2
     exact ⟨by rw [HV.out]; rfl,b0.trans (q1.below.mono b0.size)⟩
   ·have HV:=jZ (HFD'.out oM)
    clear xi
    have hd:decide (lo < l.length)=false:=jE Au
    go_wp2
    refine bm _ kZ kZ ?_
    repeat (any_goals (first | go_big_quiet_step ((fail)) | (refine wpQuiet_step (fun K hK=>?_); go_simp; split <;> (refine hK _ ?_; clear hK K))))
    all_goals (refine wpQuiet_nil ?_; rintro _ ⟨q1,rfl⟩)
    all_goals go_wp2
    go_ret2
    exact ⟨by rw [HV.out]; rfl,b0.trans (q1.below.mono b0.size)⟩
theorem fg {l:List ae} : ∀ u ∈ l.flatMap ae.enc,u.oneCell'=true:=by
 intro u hu
 obtain ⟨r,_,hr⟩:=List.mem_flatMap.1 hu
 simp only [ae.enc,mC,mN,oF] at hr
 rcases hr with rfl | rfl | rfl <;> rfl
theorem mM (A:Option Addr) (c:Nat) (l:List ae) (w:World) (h:dZ w w.heap.size A l) (hn:l.length≤1000000) :
  Calls vx 148 #[F A l.length c] w fun e w'=>∃ A' c',e=.returned (F A' l.length c')∧w'.ownsRow w.heap.size 147 3 (F A' l.length c') l.length (l.flatMap ae.enc)∧Below w.heap.size w w':=by
 rcases A with _ | ad
 ·have h0:l.length=0:=by
   rcases Nat.eq_zero_or_pos l.length with h0 | h0
   ·exact h0
   ·obtain ⟨_,_,h1,_⟩:=h.at_ h0; cases h1
  obtain rfl:l = []:=List.eq_nil_of_length_eq_zero h0
  have hq:=fun W=>Lib.run_eql_slice_nil (P:=vx) W 38 147 none 0 c 0 0 Tryz.underlying38
  go_enter Tryz.func148,Tryz.ntmps148
  go_wp2_with fail
  go_ret
  exact ⟨none,0,rfl,⟨sP,.inl ⟨rfl,rfl⟩⟩,Below.refl _ _⟩
 ·have HO:Hid ((w.alloc (.cells #[] 147)).ownsRow w.heap.size 147 3 (F (some ⟨w.heap.size,0,none⟩) 0 0) 0 []):=dO (ah.new w 147 #[]) nR
  have b1:=bZ w (.cells #[] 147)
  have HR:=jZ (bn.below h b1)
  have hq:=fun W=>Lib.run_eql_slice_nil (P:=vx) W 38 147 (some ad) l.length c 0 0 Tryz.underlying38
  go_enter Tryz.func148,Tryz.ntmps148
  go_wp2_with (at_builtin; refine hU rfl _ _ 38 rfl 147 _ 3 24 Tryz.underlying38 ej rfl (by omega) (by omega) w.heap.size _ 0 [] rfl HO w.heap.size (some ad) l.length c (l.flatMap ae.enc) rfl HR fg (by omega) b1.size ?_; intro v' w1 vT _ vC _)
  go_ret
  have ho:=vT.out
  rw [Nat.zero_add,List.nil_append] at ho
  obtain ⟨A',c',rfl⟩:=az ho
  exact ⟨A',c',rfl,ho,b1.trans vC⟩
set_option maxRecDepth 100000 in
theorem nZ (B:Nat) (v:Value) (n:Nat) (xs:List Value) (w:World) (vT:w.ownsRow B 147 3 v n xs) (hn:n≤1000000) (r:ae) (gx cx:Nat) (hx:ah w gx 147 r.enc) (hB:B≤w.heap.size) :
  Calls vx 236 #[v,O U n,F (some ⟨gx,0,none⟩) 1 cx] w fun e w'=>∃ v',e=.returned v'∧w'.ownsRow B 147 3 v' (n+1) (xs++r.enc)∧w.grownBy w' v.ownBlock:=by
 obtain ⟨i0,xC,xz,xf,AW⟩:=info_parts ej
 obtain ⟨v',w',wo,h2,h3,_,_⟩:=run_append_own_at (P:=vx) w B 38 38 147 i0 _ 3 24 Tryz.underlying38 xC xz xf AW rfl oM v n xs vT ⟨gx,0,none⟩ 1 cx r.enc rfl (fun j u hj=>by rw [df,Nat.zero_add,hx.cell]; exact hj) (by simp [ae.enc,Value.oneCell']) (by unfold maxLen; omega) oM hB
 have HO:=jZ h2; clear h2
 have HG:=jZ h3; clear h3
 have HR:=jZ wo; clear wo
 obtain ⟨_,⟨rfl,rfl⟩ | ⟨g,cap,cur,rfl,hg,hh,hc,hc',_,_⟩⟩:=vT
 ·go_enter Tryz.func236,Tryz.ntmps236
  go_wp2_with (at_builtin; refine Lib.wpList_append_run _ rfl _ _ 38 38 rfl _ _ rfl rfl v' w' HR.out ?_)
  go_ret
  exact ⟨v',rfl,HO.out,HG.out⟩
 ·have DY:cap≤9223372036854775807:=by unfold maxLen at hc'; omega
  clear hc'
  by_cases Ey:cap=n
  all_goals
   go_enter Tryz.func236,Tryz.ntmps236
   go_wp2_with (at_builtin; refine Lib.wpList_append_run _ rfl _ _ 38 38 rfl _ _ rfl rfl v' w' HR.out ?_)
   go_ret
   exact ⟨v',rfl,HO.out,HG.out⟩
set_option maxRecDepth 100000 in
theorem nc (B g n:Nat) (cur:Array Value) (xs:List Value) (w:World) (hL:ah w g 147 cur.toList) (wU:cur.size=n * 3) (wL:cur.toList.take (n * 3)=xs) (i:Nat) (hi:i < n) (hn:n≤1000000) (r:ae) (gx cx:Nat) (hx:ah w gx 147 r.enc) (hB:B≤w.heap.size) (h1:∀ u ∈ xs,u.oneCell'=true) :
  Calls vx 236 #[F (some ⟨g,0,none⟩) n n,O U i,F (some ⟨gx,0,none⟩) 1 cx] w fun e w'=>∃ v',e=.returned v'∧w'.ownsRow B 147 3 v' (n+1) (xs.take (i * 3)++r.enc++xs.drop (i * 3))∧w.grownBy w' (some g):=by
 have mixed:vx.follows .mixedOrders=true:=kZ
 obtain ⟨i0,xC,xz,xf,AW⟩:=info_parts ej
 have yt:xs.length=n * 3:=by rw [← wL,List.length_take,Array.length_toList,wU,Nat.min_self]
 have yb:i * 3≤n * 3:=Nat.mul_le_mul_right _ oM
 have wH:(vx.info? 147).map (·.size)=some 3:=by rw [xC]; simp [xf]
 have Ez:(n:Int)+1 - (i:Int)=((n+1 - i:Nat):Int):=oM
 have zT:i+(n+1 - i)=n+1:=oM
 have hcell:∀ j u,xs[j]?=some u→w.cell? ⟨g,j,none⟩=some u:=fun j u hu=>by
  rw [hL.cell]
  rw [← wL,List.getElem?_take] at hu
  split at hu
  ·exact hu
  ·cases hu
 have hold:(Builtin.firstCells i0.size i (F (some ⟨g,0,none⟩) i n)).run vx w.drew=.ok (xs.take (i * 3)).toArray w.drew:=by
  rw [xf]
  exact run_firstCells_some w.drew 3 i ⟨g,0,none⟩ i n (xs.take (i * 3)) (by rw [List.length_take]; omega) (fun j u hj=>by
   rw [df,Nat.zero_add]
   rw [List.getElem?_take] at hj
   split at hj
   ·exact hcell j u hj
   ·cases hj)
 have AC:=Lib.run_append_grow_zeros (P:=vx) w 38 3 38 147 i0 _ .i64 .i64 Tryz.underlying38 Tryz.underlying3 xC xz (some ⟨g,0,none⟩) i n (xs.take (i * 3)) hold (n+1 - i) oM oM oM oM (by rw [AW]; omega) (by rw [AW,zT]; exact growslice_fits oM oM)
 rw [zT,← Ez] at AC
 obtain ⟨G,hG⟩ : ∃ G,G=grownCap w (n+1) n 147:=⟨_,rfl⟩
 have EA:n+1≤G:=by rw [hG]; exact grownCap_ge w _ _ _
 have Bn:G≤maxLen:=by rw [hG]; exact grownCap_le_maxLen w (n+1) n 147 (by unfold maxLen; omega)
 have GP:G≤9223372036854775807:=by unfold maxLen at Bn; omega
 rw [← hG] at AC
 obtain ⟨Z,hZ⟩ : ∃ Z:List Value,Z=(Builtin.zeroCells (Value.agg #[O U 0,O U 0,O U 0]).cells (n+1 - i)++Builtin.zeroCells (Value.agg #[O U 0,O U 0,O U 0]).cells (G - (n+1))).toList:=⟨_,rfl⟩
 have EB:Z.length=(n+1 - i) * 3+(G - (n+1)) * 3:=by rw [hZ,Array.length_toList,Array.size_append,size_zeroCells,size_zeroCells]; rfl
 obtain ⟨ROW,zU⟩ : ∃ ROW:Array Value,ROW=(xs.take (i * 3)).toArray++Builtin.zeroCells (Value.agg #[O U 0,O U 0,O U 0]).cells (n+1 - i)++Builtin.zeroCells (Value.agg #[O U 0,O U 0,O U 0]).cells (G - (n+1)):=⟨_,rfl⟩
 have EC:ROW.toList=xs.take (i * 3)++Z:=by rw [zU,hZ]; simp
 rw [← zU] at AC
 clear zU hZ hG hold wU wL
 obtain ⟨W1,AX⟩ : ∃ W1,W1=w.drew.alloc (.cells ROW 147):=⟨_,rfl⟩
 rw [← AX] at AC
 have LN:ah W1 w.heap.size 147 (xs.take (i * 3)++Z):=by rw [AX,← EC]; exact ah.new w.drew 147 ROW
 have vD:Below w.heap.size w W1:=by rw [AX]; exact ((Below.refl w.heap.size w).drew).alloc nR _
 have GQ:g < w.heap.size:=hL.lt
 have GR:gx < w.heap.size:=hx.lt
 clear AX EC ROW
 have vG:(xs.take (i * 3)++Z).length=G * 3:=by
  rw [List.length_append,List.length_take,EB,yt,Nat.min_eq_left yb,← Nat.add_mul,← Nat.add_mul]; congr 1; omega
 have JP:(n+1) * 3≤G * 3:=Nat.mul_le_mul_right _ EA
 have FW:(n+1) * 3=n * 3+3:=Nat.succ_mul n 3
 have Ci:=jZ LN; clear LN
 have Dc:Hid (i * 3+r.enc.length≤(xs.take (i * 3)++Z).length):=by unfold Hid; rw [ae.enc_len,vG]; omega
 have Cj:Hid (∀ j v,r.enc[j]?=some v→W1.cell? ((⟨gx,0,none⟩ : Addr).add j)=some v):=fun j u hj=>by rw [df,Nat.zero_add,(hx.below vD GR).cell]; exact hj
 have Dd:Hid (∀ v ∈ r.enc,v.oneCell'=true):=by unfold Hid; simp [ae.enc,Value.oneCell']
 have AA:Hid (∀ v ∈ xs.drop (i * 3),v.oneCell'=true):=fun v hv=>h1 v (List.mem_of_mem_drop hv)
 have HC:Hid (∀ j u,xs[j]?=some u→W1.cell? ⟨g,j,none⟩=some u):=fun j u hu=>(vD.cell GQ).trans (hcell j u hu)
 have zK:Hid ((xs.take (i * 3)++Z).length=G * 3):=vG
 have Av:=jZ yt
 have zL:Hid ((xs.drop (i * 3)).length=(n - i) * 3):=by unfold Hid; rw [List.length_drop,yt,Nat.sub_mul]
 have JQ : ¬ (G=i):=oM
 have GS : ¬ (G=i+1):=oM
 have JR : ¬ (n=i):=oM
 have CI : ¬ ((i:Int)=(n:Int)):=oM
 have GT:(n:Int) < (n:Int)+1:=oM
 have yy:Nat.min 1 (n+1 - i)=1:=by simp only [Nat.min_def]; split <;> omega
 have yz:Nat.min (n - i) (n - i)=n - i:=Nat.min_self _
 have zV:IntKind.i64.wrap ((i:Int)+1)=(i:Int)+1:=by rw [IntKind.wrap_i64]; omega
 have hb1' : (0:Int)≤(i:Int)+1:=oM
 have wT:i≤n:=oM
 have HR:=AC
 clear AC hcell hL h1 hx vG yt zT Ez wH
 go_enter Tryz.func236,Tryz.ntmps236
 go_wp2_with (first
  | (at_builtin; refine Lib.wpList_append_run _ rfl _ _ 38 3 rfl _ _ rfl rfl _ _ HR ?_)
  | (with_reducible show wpList _ _ _ (Oper.mk (some 45) _ _ _ _ _ :: _) _ _; refine da rfl _ _ 38 rfl 147 147 3 w.heap.size (i * 3) (n+1 - i) (G - i) ⟨gx,0,none⟩ 1 cx 1 r.enc _ rfl rfl Tryz.underlying38 ?u1 ?u2 (by rw [ae.enc_len]) Ci Dc Cj Dd ?_; rotate_right; intro W2 Ck wK))
 case u1=>rw [xC]; simp [xf]
 case u2=>exact yy
 have GU:w.heap.size≤W1.heap.size:=vD.size
 have GV:w.heap.size < W1.heap.size:=Ci.out.lt
 have LG2:∀ j u,xs[j]?=some u→W2.cell? ⟨g,j,none⟩=some u:=fun j u hu=>(eQ wK ⟨g,j,none⟩ (by simp only; omega) (by simp only; intro e; injection e with e; omega)).trans (HC.out j u hu)
 have HL2' : Hid (ah W2.drew w.heap.size 147 (aY (xs.take (i * 3)++Z) (i * 3) r.enc)):=Ck.out.drew
 have Aw:Hid ((i+1) * 3+(xs.drop (i * 3)).length≤(aY (xs.take (i * 3)++Z) (i * 3) r.enc).length):=by
  unfold Hid
  rw [bV _ _ _ Dc.out,zK.out,zL.out,← Nat.add_mul]
  exact Nat.mul_le_mul_right _ oM
 have De:Hid (∀ j v,(xs.drop (i * 3))[j]?=some v→W2.drew.cell? ((⟨g,i * 3,none⟩ : Addr).add j)=some v):=fun j u hj=>by
  rw [df]; exact LG2 _ u (by rwa [List.getElem?_drop] at hj)
 clear LG2 Cj
 go_still_tail 8,kZ
 change wpList _ _ _ _ _ W2.drew
 go_wp2_with (with_reducible show wpList _ _ _ (Oper.mk (some 54) _ _ _ _ _ :: _) _ _; refine da rfl _ _ 38 rfl 147 147 3 w.heap.size ((i+1) * 3) (n - i) (G - (i+1)) ⟨g,i * 3,none⟩ (n - i) (n - i) (n - i) (xs.drop (i * 3)) _ rfl rfl Tryz.underlying38 ?v3 yz zL.out HL2' Aw De AA ?_; rotate_right; intro W3 Df hg3)
 case v3=>rw [xC]; simp [xf]
 go_ret
 have AY:Below w.heap.size w W3:=((vD.grown wK GU (by rintro _ ⟨⟩; exact Nat.le_refl _)).drew).grown hg3 (by have:=wK.size; simp; omega) (by rintro _ ⟨⟩; exact Nat.le_refl _)
 refine ⟨_,rfl,⟨?_,.inr ⟨w.heap.size,G,(aY (aY (xs.take (i * 3)++Z) (i * 3) r.enc) ((i+1) * 3) (xs.drop (i * 3))).toArray,rfl,hB,Df.out,EA,Bn, ?_, ?_⟩⟩,⟨AY.os,AY.tape,AY.output,AY.size,fun j hj _=>AY.block j hj⟩⟩
 ·rw [List.length_append,List.length_append,List.length_take,ae.enc_len,zL.out,Av.out,Nat.sub_mul]; omega
 ·rw [List.size_toArray,bV _ _ _ Aw.out,bV _ _ _ Dc.out,zK.out]
 ·show List.take _ (aY _ _ _)=_
  exact mo xs r.enc Z i 3 n (ae.enc_len r) Av.out wT (by rw [EB,← Nat.add_mul,← Nat.add_mul]; exact Nat.mul_le_mul_right _ oM)
set_option maxRecDepth 100000 in
theorem nd (B g n cap:Nat) (cur:Array Value) (xs:List Value) (w:World) (hL:ah w g 147 cur.toList) (wU:cur.size=cap * 3) (hroom:n+1≤cap) (Bo:cap≤maxLen) (wL:cur.toList.take (n * 3)=xs) (i:Nat) (hi:i < n) (hn:n≤1000000) (r:ae) (gx cx:Nat) (hx:ah w gx 147 r.enc) (vJ:gx ≠ g) (hB:B≤g) (h1:∀ u ∈ xs,u.oneCell'=true) :
  Calls vx 236 #[F (some ⟨g,0,none⟩) n cap,O U i,F (some ⟨gx,0,none⟩) 1 cx] w fun e w'=>∃ v',e=.returned v'∧w'.ownsRow B 147 3 v' (n+1) (xs.take (i * 3)++r.enc++xs.drop (i * 3))∧w.grownBy w' (some g):=by
 have mixed:vx.follows .mixedOrders=true:=kZ
 obtain ⟨i0,xC,xz,xf,AW⟩:=info_parts ej
 have FW:n * 3≤cap * 3:=Nat.mul_le_mul_right _ oM
 have Dg:(n+1) * 3≤cap * 3:=Nat.mul_le_mul_right _ hroom
 have wS:cur.toList.length=cap * 3:=by rw [Array.length_toList,wU]
 have yt:xs.length=n * 3:=by rw [← wL,List.length_take,wS]; omega
 have yb:i * 3≤n * 3:=Nat.mul_le_mul_right _ oM
 have hcell:∀ j u,xs[j]?=some u→w.cell? ⟨g,j,none⟩=some u:=fun j u hu=>by
  rw [hL.cell]
  rw [← wL,List.getElem?_take] at hu
  split at hu
  ·exact hu
  ·cases hu
 have GW:∀ ob lb cb,(callFunc 246 #[F (some ⟨gx,0,none⟩) 1 cx,F (some ⟨g,ob,none⟩) lb cb]).run vx w=.ok (.value (.bool false)) w:=fun ob lb cb =>
  iR w 246 Tryz.f246 38 4 147 kZ kZ kZ kZ kZ Tryz.underlying38 3 Tryz.sizeOf147 gx g 0 ob 1 cx lb cb vJ _ _ _ _ hx hL (by rw [wS]; omega)
 have hc63:cap≤9223372036854775807:=by unfold maxLen at Bo; omega
 have Ci:=jZ hL
 have Dd:Hid (∀ v ∈ r.enc,v.oneCell'=true):=by unfold Hid; simp [ae.enc,Value.oneCell']
 have AA:Hid (∀ v ∈ xs.drop (i * 3),v.oneCell'=true):=fun v hv=>h1 v (List.mem_of_mem_drop hv)
 have Av:=jZ yt
 have AZ:=jZ wS
 have ED:=jZ wL
 have CY:=jZ Bo
 have zL:Hid ((xs.drop (i * 3)).length=(n - i) * 3):=by unfold Hid; rw [List.length_drop,yt,Nat.sub_mul]
 have Cl:Hid ((i+1) * 3+(xs.drop (i * 3)).length≤cur.toList.length):=by
  unfold Hid; rw [zL.out,wS,← Nat.add_mul]; exact Nat.mul_le_mul_right _ oM
 have GX:Hid (∀ j v,(xs.drop (i * 3))[j]?=some v→w.drew.cell? ((⟨g,i * 3,none⟩ : Addr).add j)=some v):=fun j u hj=>by
  rw [df]; exact hcell _ u (by rwa [List.getElem?_drop] at hj)
 have Ec:Hid (ah w.drew g 147 cur.toList):=hL.drew
 have Dh:gx < w.heap.size:=hx.lt
 have HX:=jZ hx
 have FX : ¬ ((i:Int)=(n:Int)):=oM
 have CI : ¬ ((cap:Int) < (n:Int)+1):=oM
 have JS : ¬ (cap=i):=oM
 have GY : ¬ (cap=i+1):=oM
 have wT:i≤n:=oM
 have Ha:i≤n+1:=oM
 have Hb:(i:Int)≤(n:Int)+1:=oM
 have zV:IntKind.i64.wrap ((i:Int)+1)=(i:Int)+1:=by rw [IntKind.wrap_i64]; omega
 have hb1' : (0:Int)≤(i:Int)+1:=oM
 have yz:Nat.min (n+1 - i) (n - i)=n - i:=by simp only [Nat.min_def]; split <;> omega
 have yy:Nat.min 1 (n+1 - i)=1:=by simp only [Nat.min_def]; split <;> omega
 clear wS wL wU yt hL hx hcell h1 Bo
 go_enter Tryz.func236,Tryz.ntmps236
 go_wp2_with (simp only [GW])
 go_still_tail 8,kZ
 change wpList _ _ _ _ _ w.drew
 go_wp2_with (first
  | (with_reducible show wpList _ _ _ (Oper.mk (some 77) _ _ _ _ _ :: _) _ _; refine da rfl _ _ 38 rfl 147 147 3 g ((i+1) * 3) (n - i) (cap - (i+1)) ⟨g,i * 3,none⟩ (n+1 - i) (cap - i) (n - i) (xs.drop (i * 3)) _ rfl rfl Tryz.underlying38 ?v3 yz zL.out Ec Cl GX AA ?_; rotate_right; intro W2 Ck wK)
  | (with_reducible show wpList _ _ _ (Oper.mk (some 82) _ _ _ _ _ :: _) _ _; refine da rfl _ _ 38 rfl 147 147 3 g (i * 3) (n+1 - i) (cap - i) ⟨gx,0,none⟩ 1 cx 1 r.enc _ rfl rfl Tryz.underlying38 ?v4 yy ?v5 Ck ?v6 ?v7 Dd ?_; rotate_right; intro W3 Df hg3))
 case v3=>rw [xC]; simp [xf]
 case v4=>rw [xC]; simp [xf]
 case v5=>rw [ae.enc_len]
 case v6=>unfold Hid; rw [bV _ _ _ Cl.out,AZ.out,ae.enc_len]; omega
 case v7=>exact fun j u hj=>by rw [df,Nat.zero_add,(eQ wK ⟨gx,j,none⟩ Dh (by simp only; intro e; injection e with e; exact vJ e)),HX.out.drew.cell]; exact hj
 have Hc:Hid (i * 3+r.enc.length≤(aY cur.toList ((i+1) * 3) (xs.drop (i * 3))).length):=by unfold Hid; rw [bV _ _ _ Cl.out,AZ.out,ae.enc_len]; omega
 go_ret
 have e1:(i+1) * 3=i * 3+3:=Nat.succ_mul i 3
 refine ⟨_,rfl,⟨?_,.inr ⟨g,cap,(aY (aY cur.toList ((i+1) * 3) (xs.drop (i * 3))) (i * 3) r.enc).toArray,rfl,hB,Df.out,hroom,CY.out, ?_, ?_⟩⟩, ?_⟩
 ·rw [List.length_append,List.length_append,List.length_take,ae.enc_len,zL.out,Av.out,Nat.sub_mul]; omega
 ·rw [List.size_toArray,bV _ _ _ Hc.out,bV _ _ _ Cl.out,AZ.out]
 ·show List.take _ (aY _ _ _)=_
  rw [e1]
  exact kw cur.toList xs r.enc i 3 n (ae.enc_len r) Av.out wT ED.out (by rw [AZ.out]; exact Dg)
 ·exact ⟨hg3.os.trans wK.os,hg3.tape.trans wK.tape,hg3.output.trans wK.output,jT wK.size hg3.size,fun j hj hq=>(hg3.block j (jL hj wK.size) hq).trans (wK.block j hj hq)⟩
theorem n6 (B:Nat) (v:Value) (n:Nat) (xs:List Value) (w:World) (vT:w.ownsRow B 147 3 v n xs) (hn:n≤1000000) (i:Nat) (hi:i≤n) (r:ae) (gx cx:Nat) (hx:ah w gx 147 r.enc) (vJ:v.ownBlock ≠ some gx) (hB:B≤w.heap.size) (h1:∀ u ∈ xs,u.oneCell'=true) :
  Calls vx 236 #[v,O U i,F (some ⟨gx,0,none⟩) 1 cx] w fun e w'=>∃ v',e=.returned v'∧w'.ownsRow B 147 3 v' (n+1) (xs.take (i * 3)++r.enc++xs.drop (i * 3))∧w.grownBy w' v.ownBlock:=by
 rcases Nat.lt_or_ge i n with vH | we
 ·obtain ⟨hl,⟨rfl,rfl⟩ | ⟨g,cap,cur,rfl,hg,hh,hc,hc',wU,EF⟩⟩:=vT
  ·omega
  ·by_cases Ey:cap=n
   ·subst Ey
    exact nc B g cap cur xs w hh wU EF i vH hn r gx cx hx hB h1
   ·exact nd B g n cap cur xs w hh wU oM hc' EF i vH hn r gx cx hx (fun e=>vJ (by rw [e]; rfl)) hg h1
 ·have e:i=n:=oM
  subst e
  have hl:=vT.1
  rw [List.take_of_length_le oM,List.drop_eq_nil_of_le oM,List.append_nil]
  exact nZ B v i xs w vT hn r gx cx hx hB
set_option maxRecDepth 100000 in
theorem n7 (B:Nat) (v:Value) (n:Nat) (xs:List Value) (w:World) (vT:w.ownsRow B 147 3 v n xs) (hn:n≤1000000) (i:Nat) (hi:i < n) (h1:∀ u ∈ xs,u.oneCell'=true) :
  Calls vx 237 #[v,O U i,O U ((i:Int)+1)] w fun e w'=>∃ v',e=.returned v'∧w'.ownsRow B 147 3 v' (n - 1) (xs.take (i * 3)++xs.drop (i * 3+3))∧w.grownBy w' v.ownBlock∧v'.ownBlock=v.ownBlock:=by
 have mixed:vx.follows .mixedOrders=true:=kZ
 obtain ⟨i0,xC,xz,xf,AW⟩:=info_parts ej
 obtain ⟨yt,⟨rfl,rfl⟩ | ⟨g,cap,cur,rfl,hg,hh,hc,Bo,wU,wL⟩⟩:=vT
 ·omega
 have hL:ah w g 147 cur.toList:=ah.of hh
 have wS:cur.toList.length=cap * 3:=by rw [Array.length_toList,wU]
 have FW:n * 3≤cap * 3:=Nat.mul_le_mul_right _ hc
 have FV:(i+1) * 3=i * 3+3:=Nat.succ_mul i 3
 have JT:(i+1) * 3≤n * 3:=Nat.mul_le_mul_right _ oM
 have ym:(n - 1) * 3+3=n * 3:=by rw [← Nat.succ_mul]; congr 1; omega
 have hcell:∀ j u,xs[j]?=some u→w.cell? ⟨g,j,none⟩=some u:=fun j u hu=>by
  rw [hL.cell]
  rw [← wL,List.getElem?_take] at hu
  split at hu
  ·exact hu
  ·cases hu
 have Ed:(xs.drop ((i+1) * 3)).length=(n - (i+1)) * 3:=by rw [List.length_drop,yt,Nat.sub_mul]
 -- the source's address
 obtain ⟨A,hA,yN⟩ : ∃ A:Addr,(if cap=i+1 then some (⟨g,0,none⟩ : Addr) else some ⟨g,(i+1) * 3,none⟩)=some A∧∀ t u,(xs.drop ((i+1) * 3))[t]?=some u→w.drew.cell? (A.add t)=some u:=by
  by_cases h:cap=i+1
  ·refine ⟨⟨g,0,none⟩,by simp [h],fun t u hu=>?_⟩
   have h0:(xs.drop ((i+1) * 3)) = []:=List.eq_nil_of_length_eq_zero (by rw [Ed,show n - (i+1)=0 by omega,Nat.zero_mul])
   rw [h0] at hu; cases hu
  ·refine ⟨⟨g,(i+1) * 3,none⟩,by simp [h],fun t u hu=>?_⟩
   rw [df]; exact hcell _ u (by rwa [List.getElem?_drop] at hu)
 have wo:=run_append_room_cells (P:=vx) w.drew 38 38 147 i0 Tryz.underlying38 xC g 0 i cap A (n - (i+1)) (cap - (i+1)) (xs.drop ((i+1) * 3)) (by rw [xf]; exact Ed) yN (fun u hu=>h1 u (List.mem_of_mem_drop hu)) oM
  (fun j hj=>by
   show (w.cell? _).isSome=true
   rw [xf,Nat.zero_add,hL.cell,List.getElem?_eq_getElem (by rw [wS]; rw [Ed,Nat.sub_mul] at hj; omega)]; rfl) (fun j hj=>by show w.frozen? _=false; exact hL.frozen _)
 rw [xf,Nat.zero_add] at wo
 have FY:i * 3+(xs.drop ((i+1) * 3)).length≤cur.toList.length:=by rw [Ed,wS,Nat.sub_mul]; omega
 have AB:=jZ (ah.setCells (xs.drop ((i+1) * 3)) (i * 3) w.drew cur.toList hL.drew FY)
 have yw:w.grownBy (w.drew.setCells g (i * 3) (xs.drop ((i+1) * 3))) (some g):=fR _ _ _ ⟨rfl,rfl,rfl,Nat.le_refl _,fun _ _ _=>rfl⟩
 obtain ⟨W1,AX⟩ : ∃ W1,W1=w.drew.setCells g (i * 3) (xs.drop ((i+1) * 3)):=⟨_,rfl⟩
 rw [← AX] at wo AB yw
 have hlen' : i+(n - (i+1))=n - 1:=oM
 rw [hlen'] at wo
 have HR:=wo
 have hcm' : cap≤9223372036854775807:=by unfold maxLen at Bo; omega
 have CY:=jZ Bo
 have AZ:=jZ wS
 have ED:=jZ wL
 have Av:=jZ yt
 have zL:=jZ Ed
 have Aw:Hid ((n - 1) * 3+([O U 0,O U 0,O U 0] : List Value).length≤(aY cur.toList (i * 3) (xs.drop ((i+1) * 3))).length):=by
  unfold Hid; rw [bV _ _ _ FY,wS]; simp; omega
 have JU:=jZ FY
 have FX : ¬ ((i:Int)=(i:Int)+1):=oM
 have Lp:(i:Int)+1≤(n:Int):=oM
 have hb0:(0:Int)≤(i:Int)+1:=oM
 have wT:i+1≤n:=oM
 have JV : ¬ (cap=n - 1):=oM
 have FZ:n - (n - 1)=1:=oM
 have JW:n - 1≤n:=oM
 have Ls:n≤cap:=hc
 have Lt:i≤cap:=oM
 have JX:i+1≤cap:=oM
 have IP:(i:Int)≤(cap:Int):=oM
 have Lu:((i:Int)+1).toNat=i+1:=oM
 have HA:=jZ hA
 clear AX wo hcell yN wU wS wL yt Ed FY hh hL h1 Bo JT ym hA
 go_enter Tryz.func237,Tryz.ntmps237
 go_wp2
 go_still_tail 6,kZ
 change wpList _ _ _ _ _ w.drew
 go_wp2_with (first
  | (at_builtin; refine Lib.wpList_append_run _ rfl _ _ 38 38 rfl _ _ rfl ?w1 _ _ HR ?_)
  | (with_reducible show wpList _ _ _ (Oper.mk none (Op.call _) _ _ _ _ :: _) _ _; refine lI rfl _ 38 rfl 147 147 _ [O U 0,O U 0,O U 0] g ((n - 1) * 3) 1 (cap - (n - 1)) _ ?w2 Tryz.underlying38 Tryz.zeroValue147 oM ?w3 ?w4 AB Aw ?_; rotate_right; intro W2 Ck wK))
 case w1.inl =>
  have h:=HA.out
  rw [if_pos (by assumption)] at h
  exact Option.some.inj h
 case w1.inr =>
  have h:=HA.out
  rw [if_neg (by assumption)] at h
  rw [← Option.some.inj h,FV]
 case w3=>kernel_rfl
 case w4=>simp [Value.oneCell']
 all_goals
  go_ret
  refine ⟨_,rfl,⟨?_,.inr ⟨g,_,(aY (aY cur.toList (i * 3) (xs.drop ((i+1) * 3))) ((n - 1) * 3) [O U 0,O U 0,O U 0]).toArray,rfl,hg,Ck.out,oM,by have:=CY.out; omega, ?_, ?_⟩⟩, ?_,rfl⟩
  ·rw [List.length_append,List.length_take,List.length_drop,Av.out,Nat.sub_mul]; omega
  ·rw [List.size_toArray,bV _ _ _ Aw.out,bV _ _ _ JU.out]; have:=AZ.out; omega
  ·show List.take _ (aY _ _ _)=_
   rw [FV]
   exact nW cur.toList xs [O U 0,O U 0,O U 0] i 3 n rfl Av.out hi ED.out (by rw [AZ.out]; omega)
  ·exact ⟨wK.os.trans yw.os,wK.tape.trans yw.tape,wK.output.trans yw.output,jT yw.size wK.size,fun j hj hq=>(wK.block j (jL hj yw.size) hq).trans (yw.block j hj hq)⟩
end Go.Proofs.YtoeoimhemojdeaaGreatDoor
