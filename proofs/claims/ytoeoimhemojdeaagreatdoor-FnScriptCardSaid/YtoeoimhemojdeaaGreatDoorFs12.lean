/- Lemmas. -/
import Derived.StillTailTactics
import Derived.Test.YtoeoimhemojdeaaGreatDoorFs10

set_option linter.unusedVariables false
set_option linter.unusedSimpArgs false
set_option maxHeartbeats 8000000
open Go.Value renaming int → O, slice → F, string → wG
open Go.IntKind renaming i64 → U
open Go.Proofs.Tryz renaming prog → wH

namespace Go.Proofs.YtoeoimhemojdeaaGreatDoor
open Go.RowKit
set_option maxRecDepth 100000 in
theorem lD (cf:ae→Int) (tg:ae) (g:Nat) (lb:Array Value) (eg:∀ args w,(callFunc g args).run wH w=.ok (.enter g args) w) (A:Option Addr) (c:Nat) (l:List ae) (w:World)
  (hf:∀ (t:ae) (p:ap w.heap.size w),Calls wH g (#[t.val,tg.val]++lb) p.val fun e w'=>e=.returned (O U (cf t))∧Below p.val.heap.size p.val w') (h:eS w w.heap.size A l) (hl:l.length≤1000000)
  (b:Nat) (hb:b≤l.length) (Ay:∀ i (h:i < l.length),i < b→cf l[i] < 0) (BK:∀ i (h:i < l.length),b≤i→¬ cf l[i] < 0) (fd:Bool) (BL:∀ h:b < l.length,fd=decide (cf l[b]=0)) (hfd' : b=l.length→fd=false) :
  Calls wH 235 #[F A l.length c,tg.val,.func (.func g) #[] lb] w fun e w'=>e=.returned (.tuple #[O U b,.bool fd])∧Below w.heap.size w w':=by
 have b0:=bZ w (.cells #[O U tg.k,O U tg.p,O U tg.c] 147)
 have Cx:=ai.new w 147 #[O U tg.k,O U tg.p,O U tg.c]
 have HC:=jZ hf; clear hf
 have IT:=jZ Ay; clear Ay
 have IU:=jZ BK; clear BK
 have IV:=jZ BL; clear BL
 have HFD':=jZ hfd'; clear hfd'
 go_enter Tryz.func235,Tryz.ntmps235
 go_wp2
 have h0:=bm.up h b0 nR
 generalize w.alloc (.cells #[O U tg.k,O U tg.p,O U tg.c] 147)=W at b0 Cx h0 ⊢
 have yn:=(show eS W W.heap.size A l from h0).el
 obtain ⟨d0,d1,d2⟩:=fY.of (r:=tg) Cx
 go_loopw [9,10] (fun s9 s10 wr=>∃ lo hi:Nat,s9=O U lo∧s10=O U hi∧lo≤b∧b≤hi∧hi≤l.length∧(∃ q:ap W.heap.size W,wr=q.val)) (fun s9 s10 _=>(intOf s10).toNat - (intOf s9).toNat)
 case atStart=>exact ⟨0,l.length,rfl,rfl,Nat.zero_le _,hb,Nat.le_refl _,ap.start _ _,rfl⟩
 case round =>
  obtain ⟨lo,hi,rfl,rfl,h1,h2,h3,⟨q,rfl⟩⟩:=hrel
  by_cases wQ:lo < hi
  ·have hm:(lo+hi) / 2 < l.length:=oM
   obtain ⟨bb,off,rfl,ze,hcell⟩:=yn oM
   obtain ⟨c0,c1,c2⟩:=hcell ((lo+hi) / 2) hm
   have k1:cf l[(lo+hi) / 2] < 0→(lo+hi) / 2+1≤b:=fun hv=>by
    rcases Nat.lt_or_ge ((lo+hi) / 2) b with h | h
    ·exact h
    ·have:=IU.out _ hm h; omega
   have k2 : ¬ cf l[(lo+hi) / 2] < 0→b≤(lo+hi) / 2:=fun hv=>by
    rcases Nat.lt_or_ge ((lo+hi) / 2) b with h | h
    ·have:=IT.out _ hm h; omega
    ·exact h
   obtain ⟨x,zV⟩ : ∃ x,x=l[(lo+hi) / 2]:=⟨_,rfl⟩
   rw [← zV] at c0 c1 c2 k1 k2
   have Ac:=fun p:ap W.heap.size W=>HC.out x ⟨p.val,b0.trans (p.below.mono b0.size)⟩
   obtain ⟨V,hV⟩ : ∃ V,cf x=V:=⟨_,rfl⟩
   have Gf:Hid (Value.int .i64 (cf x)=O U V):=by rw [hV]; rfl
   rw [hV] at k1 k2
   have hX:=jZ hV; clear hV
   clear zV hcell yn
   by_cases hv:V < 0
   ·have K:=k1 hv
    clear k1 k2
    go_wp2
    refine aX _ kZ kZ ?_
    repeat (any_goals (first | go_big_quiet_step ((with_reducible refine aU Gf nR (Ac _))) | (refine wpQuiet_step (fun K hK=>?_); go_simp; split <;> (refine hK _ ?_; clear hK K))))
    all_goals (refine wpQuiet_nil ?_; rintro _ ⟨q1,rfl⟩)
    all_goals go_wp2
    go_roundw
    case rel=>exact ⟨(lo+hi) / 2+1,hi,by go_num,rfl,K,h2,h3,⟨q1,rfl⟩⟩
    case measure=>simp [intOf]; omega
   ·have K:=k2 hv
    clear k1 k2
    go_wp2
    refine aX _ kZ kZ ?_
    repeat (any_goals (first | go_big_quiet_step ((with_reducible refine aU Gf nR (Ac _))) | (refine wpQuiet_step (fun K hK=>?_); go_simp; split <;> (refine hK _ ?_; clear hK K))))
    all_goals (refine wpQuiet_nil ?_; rintro _ ⟨q1,rfl⟩)
    all_goals go_wp2
    go_roundw
    case rel=>exact ⟨lo,(lo+hi) / 2,rfl,by go_num,h1,K,oM,⟨q1,rfl⟩⟩
    case measure=>simp [intOf]; omega
  ·obtain rfl:hi=b:=oM
   obtain rfl:lo=hi:=oM
   by_cases BO:lo < l.length
   ·obtain ⟨bb,off,rfl,ze,hcell⟩:=yn oM
    obtain ⟨c0,c1,c2⟩:=hcell lo BO
    have HE:=jZ (IV.out BO)
    obtain ⟨x,zV⟩ : ∃ x,x=l[lo]:=⟨_,rfl⟩
    rw [← zV] at c0 c1 c2 HE
    have Ac:=fun p:ap W.heap.size W=>HC.out x ⟨p.val,b0.trans (p.below.mono b0.size)⟩
    obtain ⟨V,hV⟩ : ∃ V,cf x=V:=⟨_,rfl⟩
    have Gf:Hid (Value.int .i64 (cf x)=O U V):=by rw [hV]; rfl
    rw [hV] at HE
    have hX:=jZ hV; clear hV
    clear zV hcell yn
    by_cases hv:V=0
    ·have hv' : (V == 0)=true:=by simp [hv]
     have HV:Hid (fd=true):=by unfold Hid; rw [HE.out,jD hv]
     clear hv
     go_wp2
     refine aX _ kZ kZ ?_
     repeat (any_goals (first | go_big_quiet_step ((with_reducible refine aU Gf nR (Ac _))) | (refine wpQuiet_step (fun K hK=>?_); go_simp; split <;> (refine hK _ ?_; clear hK K))))
     all_goals (refine wpQuiet_nil ?_; rintro _ ⟨q1,rfl⟩)
     all_goals go_wp2
     go_ret2
     exact ⟨by rw [HV.out]; rfl,b0.trans (q1.below.mono b0.size)⟩
    ·have hv' : (V == 0)=false:=by simp [hv]
     have HV:Hid (fd=false):=by unfold Hid; rw [HE.out,jE hv]
     clear hv
     go_wp2
     refine aX _ kZ kZ ?_
     repeat (any_goals (first | go_big_quiet_step ((with_reducible refine aU Gf nR (Ac _))) | (refine wpQuiet_step (fun K hK=>?_); go_simp; split <;> (refine hK _ ?_; clear hK K))))
     all_goals (refine wpQuiet_nil ?_; rintro _ ⟨q1,rfl⟩)
     all_goals go_wp2
     go_ret2
     exact ⟨by rw [HV.out]; rfl,b0.trans (q1.below.mono b0.size)⟩
   ·have HV:=jZ (HFD'.out oM)
    clear yn
    have hd:decide (lo < l.length)=false:=jE BO
    go_wp2
    refine aX _ kZ kZ ?_
    repeat (any_goals (first | go_big_quiet_step ((fail)) | (refine wpQuiet_step (fun K hK=>?_); go_simp; split <;> (refine hK _ ?_; clear hK K))))
    all_goals (refine wpQuiet_nil ?_; rintro _ ⟨q1,rfl⟩)
    all_goals go_wp2
    go_ret2
    exact ⟨by rw [HV.out]; rfl,b0.trans (q1.below.mono b0.size)⟩
theorem fu {l:List ae} : ∀ u ∈ l.flatMap ae.enc,u.oneCell'=true:=by
 intro u hu
 obtain ⟨r,_,hr⟩:=List.mem_flatMap.1 hu
 simp only [ae.enc,mC,mN,oF] at hr
 rcases hr with rfl | rfl | rfl <;> rfl
theorem nh (A:Option Addr) (c:Nat) (l:List ae) (w:World) (h:eS w w.heap.size A l) (hn:l.length≤1000000) :
  Calls wH 148 #[F A l.length c] w fun e w'=>∃ A' c',e=.returned (F A' l.length c')∧w'.ownsRow w.heap.size 147 3 (F A' l.length c') l.length (l.flatMap ae.enc)∧Below w.heap.size w w':=by
 rcases A with _ | ad
 ·have h0:l.length=0:=by
   rcases Nat.eq_zero_or_pos l.length with h0 | h0
   ·exact h0
   ·obtain ⟨_,_,h1,_⟩:=h.at_ h0; cases h1
  obtain rfl:l = []:=List.eq_nil_of_length_eq_zero h0
  have hq:=fun W=>Lib.run_eql_slice_nil (P:=wH) W 38 147 none 0 c 0 0 Tryz.underlying38
  go_enter Tryz.func148,Tryz.ntmps148
  go_wp2_with fail
  go_ret
  exact ⟨none,0,rfl,⟨sP,.inl ⟨rfl,rfl⟩⟩,Below.refl _ _⟩
 ·have HO:Hid ((w.alloc (.cells #[] 147)).ownsRow w.heap.size 147 3 (F (some ⟨w.heap.size,0,none⟩) 0 0) 0 []):=dw (ai.new w 147 #[]) nR
  have b1:=bZ w (.cells #[] 147)
  have HR:=jZ (bm.below h b1)
  have hq:=fun W=>Lib.run_eql_slice_nil (P:=wH) W 38 147 (some ad) l.length c 0 0 Tryz.underlying38
  go_enter Tryz.func148,Tryz.ntmps148
  go_wp2_with (at_builtin; refine im rfl _ _ 38 rfl 147 _ 3 24 Tryz.underlying38 ex rfl (by omega) (by omega) w.heap.size _ 0 [] rfl HO w.heap.size (some ad) l.length c (l.flatMap ae.enc) rfl HR fu (by omega) b1.size ?_; intro v' w1 xg _ wM _)
  go_ret
  have ho:=xg.out
  rw [Nat.zero_add,List.nil_append] at ho
  obtain ⟨A',c',rfl⟩:=az ho
  exact ⟨A',c',rfl,ho,b1.trans wM⟩
set_option maxRecDepth 100000 in
theorem oU (B:Nat) (v:Value) (n:Nat) (xs:List Value) (w:World) (xg:w.ownsRow B 147 3 v n xs) (hn:n≤1000000) (r:ae) (gx cx:Nat) (hx:ai w gx 147 r.enc) (hB:B≤w.heap.size) :
  Calls wH 236 #[v,O U n,F (some ⟨gx,0,none⟩) 1 cx] w fun e w'=>∃ v',e=.returned v'∧w'.ownsRow B 147 3 v' (n+1) (xs++r.enc)∧w.grownBy w' v.ownBlock:=by
 obtain ⟨i0,yE,yC,yh,Cv⟩:=info_parts ex
 obtain ⟨v',w',xz,h2,h3,_,_⟩:=run_append_own_at (P:=wH) w B 38 38 147 i0 _ 3 24 Tryz.underlying38 yE yC yh Cv rfl oM v n xs xg ⟨gx,0,none⟩ 1 cx r.enc rfl (fun j u hj=>by rw [cR,Nat.zero_add,hx.cell]; exact hj) (by simp [ae.enc,Value.oneCell']) (by unfold maxLen; omega) oM hB
 have HO:=jZ h2; clear h2
 have HG:=jZ h3; clear h3
 have HR:=jZ xz; clear xz
 obtain ⟨_,⟨rfl,rfl⟩ | ⟨g,cap,cur,rfl,hg,hh,hc,hc',_,_⟩⟩:=xg
 ·go_enter Tryz.func236,Tryz.ntmps236
  go_wp2_with (at_builtin; refine Lib.wpList_append_run _ rfl _ _ 38 38 rfl _ _ rfl rfl v' w' HR.out ?_)
  go_ret
  exact ⟨v',rfl,HO.out,HG.out⟩
 ·have FE:cap≤9223372036854775807:=by unfold maxLen at hc'; omega
  clear hc'
  by_cases FW:cap=n
  all_goals
   go_enter Tryz.func236,Tryz.ntmps236
   go_wp2_with (at_builtin; refine Lib.wpList_append_run _ rfl _ _ 38 38 rfl _ _ rfl rfl v' w' HR.out ?_)
   go_ret
   exact ⟨v',rfl,HO.out,HG.out⟩
set_option maxRecDepth 100000 in
theorem nK (B g n:Nat) (cur:Array Value) (xs:List Value) (w:World) (hL:ai w g 147 cur.toList) (yi:cur.size=n * 3) (xO:cur.toList.take (n * 3)=xs) (i:Nat) (hi:i < n) (hn:n≤1000000) (r:ae) (gx cx:Nat) (hx:ai w gx 147 r.enc) (hB:B≤w.heap.size) (h1:∀ u ∈ xs,u.oneCell'=true) :
  Calls wH 236 #[F (some ⟨g,0,none⟩) n n,O U i,F (some ⟨gx,0,none⟩) 1 cx] w fun e w'=>∃ v',e=.returned v'∧w'.ownsRow B 147 3 v' (n+1) (xs.take (i * 3)++r.enc++xs.drop (i * 3))∧w.grownBy w' (some g):=by
 have mixed:wH.follows .mixedOrders=true:=kZ
 obtain ⟨i0,yE,yC,yh,Cv⟩:=info_parts ex
 have zD:xs.length=n * 3:=by rw [← xO,List.length_take,Array.length_toList,yi,Nat.min_self]
 have zj:i * 3≤n * 3:=Nat.mul_le_mul_right _ oM
 have xQ:(wH.info? 147).map (·.size)=some 3:=by rw [yE]; simp [yh]
 have FX:(n:Int)+1 - (i:Int)=((n+1 - i:Nat):Int):=oM
 have Bk:i+(n+1 - i)=n+1:=oM
 have hcell:∀ j u,xs[j]?=some u→w.cell? ⟨g,j,none⟩=some u:=fun j u hu=>by
  rw [hL.cell]
  rw [← xO,List.getElem?_take] at hu
  split at hu
  ·exact hu
  ·cases hu
 have hold:(Builtin.firstCells i0.size i (F (some ⟨g,0,none⟩) i n)).run wH w.drew=.ok (xs.take (i * 3)).toArray w.drew:=by
  rw [yh]
  exact run_firstCells_some w.drew 3 i ⟨g,0,none⟩ i n (xs.take (i * 3)) (by rw [List.length_take]; omega) (fun j u hj=>by
   rw [cR,Nat.zero_add]
   rw [List.getElem?_take] at hj
   split at hj
   ·exact hcell j u hj
   ·cases hj)
 have Ca:=Lib.run_append_grow_zeros (P:=wH) w 38 3 38 147 i0 _ .i64 .i64 Tryz.underlying38 Tryz.underlying3 yE yC (some ⟨g,0,none⟩) i n (xs.take (i * 3)) hold (n+1 - i) oM oM oM oM (by rw [Cv]; omega) (by rw [Cv,Bk]; exact growslice_fits oM oM)
 rw [Bk,← FX] at Ca
 obtain ⟨G,hG⟩ : ∃ G,G=grownCap w (n+1) n 147:=⟨_,rfl⟩
 have FY:n+1≤G:=by rw [hG]; exact grownCap_ge w _ _ _
 have CL:G≤maxLen:=by rw [hG]; exact grownCap_le_maxLen w (n+1) n 147 (by unfold maxLen; omega)
 have IW:G≤9223372036854775807:=by unfold maxLen at CL; omega
 rw [← hG] at Ca
 obtain ⟨Z,hZ⟩ : ∃ Z:List Value,Z=(Builtin.zeroCells (Value.agg #[O U 0,O U 0,O U 0]).cells (n+1 - i)++Builtin.zeroCells (Value.agg #[O U 0,O U 0,O U 0]).cells (G - (n+1))).toList:=⟨_,rfl⟩
 have FZ:Z.length=(n+1 - i) * 3+(G - (n+1)) * 3:=by rw [hZ,Array.length_toList,Array.size_append,size_zeroCells,size_zeroCells]; rfl
 obtain ⟨ROW,Bl⟩ : ∃ ROW:Array Value,ROW=(xs.take (i * 3)).toArray++Builtin.zeroCells (Value.agg #[O U 0,O U 0,O U 0]).cells (n+1 - i)++Builtin.zeroCells (Value.agg #[O U 0,O U 0,O U 0]).cells (G - (n+1)):=⟨_,rfl⟩
 have Ga:ROW.toList=xs.take (i * 3)++Z:=by rw [Bl,hZ]; simp
 rw [← Bl] at Ca
 clear Bl hZ hG hold yi xO
 obtain ⟨W1,yP⟩ : ∃ W1,W1=w.drew.alloc (.cells ROW 147):=⟨_,rfl⟩
 rw [← yP] at Ca
 have LN:ai W1 w.heap.size 147 (xs.take (i * 3)++Z):=by rw [yP,← Ga]; exact ai.new w.drew 147 ROW
 have wN:Below w.heap.size w W1:=by rw [yP]; exact ((Below.refl w.heap.size w).drew).alloc nR _
 have IX:g < w.heap.size:=hL.lt
 have IY:gx < w.heap.size:=hx.lt
 clear yP Ga ROW
 have wR:(xs.take (i * 3)++Z).length=G * 3:=by
  rw [List.length_append,List.length_take,FZ,zD,Nat.min_eq_left zj,← Nat.add_mul,← Nat.add_mul]; congr 1; omega
 have Md:(n+1) * 3≤G * 3:=Nat.mul_le_mul_right _ FY
 have Hw:(n+1) * 3=n * 3+3:=Nat.succ_mul n 3
 have Bj:=jZ LN; clear LN
 have BP:Hid (i * 3+r.enc.length≤(xs.take (i * 3)++Z).length):=by unfold Hid; rw [ae.enc_len,wR]; omega
 have Gb:Hid (∀ j v,r.enc[j]?=some v→W1.cell? ((⟨gx,0,none⟩ : Addr).add j)=some v):=fun j u hj=>by rw [cR,Nat.zero_add,(hx.below wN IY).cell]; exact hj
 have EC:Hid (∀ v ∈ r.enc,v.oneCell'=true):=by unfold Hid; simp [ae.enc,Value.oneCell']
 have BX:Hid (∀ v ∈ xs.drop (i * 3),v.oneCell'=true):=fun v hv=>h1 v (List.mem_of_mem_drop hv)
 have HC:Hid (∀ j u,xs[j]?=some u→W1.cell? ⟨g,j,none⟩=some u):=fun j u hu=>(wN.cell IX).trans (hcell j u hu)
 have AX:Hid ((xs.take (i * 3)++Z).length=G * 3):=wR
 have BQ:=jZ zD
 have AY:Hid ((xs.drop (i * 3)).length=(n - i) * 3):=by unfold Hid; rw [List.length_drop,zD,Nat.sub_mul]
 have Me : ¬ (G=i):=oM
 have IZ : ¬ (G=i+1):=oM
 have Mf : ¬ (n=i):=oM
 have Eu : ¬ ((i:Int)=(n:Int)):=oM
 have KP:(n:Int) < (n:Int)+1:=oM
 have zH:Nat.min 1 (n+1 - i)=1:=by simp only [Nat.min_def]; split <;> omega
 have zI:Nat.min (n - i) (n - i)=n - i:=Nat.min_self _
 have AZ:IntKind.i64.wrap ((i:Int)+1)=(i:Int)+1:=by rw [IntKind.wrap_i64]; omega
 have hb1' : (0:Int)≤(i:Int)+1:=oM
 have xZ:i≤n:=oM
 have HR:=Ca
 clear Ca hcell hL h1 hx wR zD Bk FX xQ
 go_enter Tryz.func236,Tryz.ntmps236
 go_wp2_with (first
  | (at_builtin; refine Lib.wpList_append_run _ rfl _ _ 38 3 rfl _ _ rfl rfl _ _ HR ?_)
  | (with_reducible show wpList _ _ _ (Oper.mk (some 45) _ _ _ _ _ :: _) _ _; refine dj rfl _ _ 38 rfl 147 147 3 w.heap.size (i * 3) (n+1 - i) (G - i) ⟨gx,0,none⟩ 1 cx 1 r.enc _ rfl rfl Tryz.underlying38 ?u1 ?u2 (by rw [ae.enc_len]) Bj BP Gb EC ?_; rotate_right; intro W2 DL xL))
 case u1=>rw [yE]; simp [yh]
 case u2=>exact zH
 have Ja:w.heap.size≤W1.heap.size:=wN.size
 have Jb:w.heap.size < W1.heap.size:=Bj.out.lt
 have LG2:∀ j u,xs[j]?=some u→W2.cell? ⟨g,j,none⟩=some u:=fun j u hu=>(fa xL ⟨g,j,none⟩ (by simp only; omega) (by simp only; intro e; injection e with e; omega)).trans (HC.out j u hu)
 have HL2' : Hid (ai W2.drew w.heap.size 147 (aZ (xs.take (i * 3)++Z) (i * 3) r.enc)):=DL.out.drew
 have BR:Hid ((i+1) * 3+(xs.drop (i * 3)).length≤(aZ (xs.take (i * 3)++Z) (i * 3) r.enc).length):=by
  unfold Hid
  rw [bY _ _ _ BP.out,AX.out,AY.out,← Nat.add_mul]
  exact Nat.mul_le_mul_right _ oM
 have Jc:Hid (∀ j v,(xs.drop (i * 3))[j]?=some v→W2.drew.cell? ((⟨g,i * 3,none⟩ : Addr).add j)=some v):=fun j u hj=>by
  rw [cR]; exact LG2 _ u (by rwa [List.getElem?_drop] at hj)
 clear LG2 Gb
 go_still_tail 8,kZ
 change wpList _ _ _ _ _ W2.drew
 go_wp2_with (with_reducible show wpList _ _ _ (Oper.mk (some 54) _ _ _ _ _ :: _) _ _; refine dj rfl _ _ 38 rfl 147 147 3 w.heap.size ((i+1) * 3) (n - i) (G - (i+1)) ⟨g,i * 3,none⟩ (n - i) (n - i) (n - i) (xs.drop (i * 3)) _ rfl rfl Tryz.underlying38 ?v3 zI AY.out HL2' BR Jc BX ?_; rotate_right; intro W3 ED hg3)
 case v3=>rw [yE]; simp [yh]
 go_ret
 have CM:Below w.heap.size w W3:=((wN.grown xL Ja (by rintro _ ⟨⟩; exact Nat.le_refl _)).drew).grown hg3 (by have:=xL.size; simp; omega) (by rintro _ ⟨⟩; exact Nat.le_refl _)
 refine ⟨_,rfl,⟨?_,.inr ⟨w.heap.size,G,(aZ (aZ (xs.take (i * 3)++Z) (i * 3) r.enc) ((i+1) * 3) (xs.drop (i * 3))).toArray,rfl,hB,ED.out,FY,CL, ?_, ?_⟩⟩,⟨CM.os,CM.tape,CM.output,CM.size,fun j hj _=>CM.block j hj⟩⟩
 ·rw [List.length_append,List.length_append,List.length_take,ae.enc_len,AY.out,BQ.out,Nat.sub_mul]; omega
 ·rw [List.size_toArray,bY _ _ _ BR.out,bY _ _ _ BP.out,AX.out]
 ·show List.take _ (aZ _ _ _)=_
  exact mP xs r.enc Z i 3 n (ae.enc_len r) BQ.out xZ (by rw [FZ,← Nat.add_mul,← Nat.add_mul]; exact Nat.mul_le_mul_right _ oM)
set_option maxRecDepth 100000 in
theorem nM (B g n cap:Nat) (cur:Array Value) (xs:List Value) (w:World) (hL:ai w g 147 cur.toList) (yi:cur.size=cap * 3) (hroom:n+1≤cap) (CN:cap≤maxLen) (xO:cur.toList.take (n * 3)=xs) (i:Nat) (hi:i < n) (hn:n≤1000000) (r:ae) (gx cx:Nat) (hx:ai w gx 147 r.enc) (wT:gx ≠ g) (hB:B≤g) (h1:∀ u ∈ xs,u.oneCell'=true) :
  Calls wH 236 #[F (some ⟨g,0,none⟩) n cap,O U i,F (some ⟨gx,0,none⟩) 1 cx] w fun e w'=>∃ v',e=.returned v'∧w'.ownsRow B 147 3 v' (n+1) (xs.take (i * 3)++r.enc++xs.drop (i * 3))∧w.grownBy w' (some g):=by
 have mixed:wH.follows .mixedOrders=true:=kZ
 obtain ⟨i0,yE,yC,yh,Cv⟩:=info_parts ex
 have Hw:n * 3≤cap * 3:=Nat.mul_le_mul_right _ oM
 have EF:(n+1) * 3≤cap * 3:=Nat.mul_le_mul_right _ hroom
 have xY:cur.toList.length=cap * 3:=by rw [Array.length_toList,yi]
 have zD:xs.length=n * 3:=by rw [← xO,List.length_take,xY]; omega
 have zj:i * 3≤n * 3:=Nat.mul_le_mul_right _ oM
 have hcell:∀ j u,xs[j]?=some u→w.cell? ⟨g,j,none⟩=some u:=fun j u hu=>by
  rw [hL.cell]
  rw [← xO,List.getElem?_take] at hu
  split at hu
  ·exact hu
  ·cases hu
 have CO:∀ ob lb cb,(callFunc 246 #[F (some ⟨gx,0,none⟩) 1 cx,F (some ⟨g,ob,none⟩) lb cb]).run wH w=.ok (.value (.bool false)) w:=fun ob lb cb =>
  je w 246 Tryz.f246 38 4 147 kZ kZ kZ kZ kZ Tryz.underlying38 3 Tryz.sizeOf147 gx g 0 ob 1 cx lb cb wT _ _ _ _ hx hL (by rw [xY]; omega)
 have hc63:cap≤9223372036854775807:=by unfold maxLen at CN; omega
 have Bj:=jZ hL
 have EC:Hid (∀ v ∈ r.enc,v.oneCell'=true):=by unfold Hid; simp [ae.enc,Value.oneCell']
 have BX:Hid (∀ v ∈ xs.drop (i * 3),v.oneCell'=true):=fun v hv=>h1 v (List.mem_of_mem_drop hv)
 have BQ:=jZ zD
 have Cw:=jZ xY
 have Gc:=jZ xO
 have Ez:=jZ CN
 have AY:Hid ((xs.drop (i * 3)).length=(n - i) * 3):=by unfold Hid; rw [List.length_drop,zD,Nat.sub_mul]
 have DM:Hid ((i+1) * 3+(xs.drop (i * 3)).length≤cur.toList.length):=by
  unfold Hid; rw [AY.out,xY,← Nat.add_mul]; exact Nat.mul_le_mul_right _ oM
 have Jd:Hid (∀ j v,(xs.drop (i * 3))[j]?=some v→w.drew.cell? ((⟨g,i * 3,none⟩ : Addr).add j)=some v):=fun j u hj=>by
  rw [cR]; exact hcell _ u (by rwa [List.getElem?_drop] at hj)
 have Je:Hid (ai w.drew g 147 cur.toList):=hL.drew
 have EG:gx < w.heap.size:=hx.lt
 have HX:=jZ hx
 have Gd : ¬ ((i:Int)=(n:Int)):=oM
 have Eu : ¬ ((cap:Int) < (n:Int)+1):=oM
 have Mg : ¬ (cap=i):=oM
 have Jf : ¬ (cap=i+1):=oM
 have xZ:i≤n:=oM
 have Jg:i≤n+1:=oM
 have Jh:(i:Int)≤(n:Int)+1:=oM
 have AZ:IntKind.i64.wrap ((i:Int)+1)=(i:Int)+1:=by rw [IntKind.wrap_i64]; omega
 have hb1' : (0:Int)≤(i:Int)+1:=oM
 have zI:Nat.min (n+1 - i) (n - i)=n - i:=by simp only [Nat.min_def]; split <;> omega
 have zH:Nat.min 1 (n+1 - i)=1:=by simp only [Nat.min_def]; split <;> omega
 clear xY xO yi zD hL hx hcell h1 CN
 go_enter Tryz.func236,Tryz.ntmps236
 go_wp2_with (simp only [CO])
 go_still_tail 8,kZ
 change wpList _ _ _ _ _ w.drew
 go_wp2_with (first
  | (with_reducible show wpList _ _ _ (Oper.mk (some 77) _ _ _ _ _ :: _) _ _; refine dj rfl _ _ 38 rfl 147 147 3 g ((i+1) * 3) (n - i) (cap - (i+1)) ⟨g,i * 3,none⟩ (n+1 - i) (cap - i) (n - i) (xs.drop (i * 3)) _ rfl rfl Tryz.underlying38 ?v3 zI AY.out Je DM Jd BX ?_; rotate_right; intro W2 DL xL)
  | (with_reducible show wpList _ _ _ (Oper.mk (some 82) _ _ _ _ _ :: _) _ _; refine dj rfl _ _ 38 rfl 147 147 3 g (i * 3) (n+1 - i) (cap - i) ⟨gx,0,none⟩ 1 cx 1 r.enc _ rfl rfl Tryz.underlying38 ?v4 zH ?v5 DL ?v6 ?v7 EC ?_; rotate_right; intro W3 ED hg3))
 case v3=>rw [yE]; simp [yh]
 case v4=>rw [yE]; simp [yh]
 case v5=>rw [ae.enc_len]
 case v6=>unfold Hid; rw [bY _ _ _ DM.out,Cw.out,ae.enc_len]; omega
 case v7=>exact fun j u hj=>by rw [cR,Nat.zero_add,(fa xL ⟨gx,j,none⟩ EG (by simp only; intro e; injection e with e; exact wT e)),HX.out.drew.cell]; exact hj
 have Ji:Hid (i * 3+r.enc.length≤(aZ cur.toList ((i+1) * 3) (xs.drop (i * 3))).length):=by unfold Hid; rw [bY _ _ _ DM.out,Cw.out,ae.enc_len]; omega
 go_ret
 have e1:(i+1) * 3=i * 3+3:=Nat.succ_mul i 3
 refine ⟨_,rfl,⟨?_,.inr ⟨g,cap,(aZ (aZ cur.toList ((i+1) * 3) (xs.drop (i * 3))) (i * 3) r.enc).toArray,rfl,hB,ED.out,hroom,Ez.out, ?_, ?_⟩⟩, ?_⟩
 ·rw [List.length_append,List.length_append,List.length_take,ae.enc_len,AY.out,BQ.out,Nat.sub_mul]; omega
 ·rw [List.size_toArray,bY _ _ _ Ji.out,bY _ _ _ DM.out,Cw.out]
 ·show List.take _ (aZ _ _ _)=_
  rw [e1]
  exact kS cur.toList xs r.enc i 3 n (ae.enc_len r) BQ.out xZ Gc.out (by rw [Cw.out]; exact EF)
 ·exact ⟨hg3.os.trans xL.os,hg3.tape.trans xL.tape,hg3.output.trans xL.output,jT xL.size hg3.size,fun j hj hq=>(hg3.block j (jL hj xL.size) hq).trans (xL.block j hj hq)⟩
theorem oV (B:Nat) (v:Value) (n:Nat) (xs:List Value) (w:World) (xg:w.ownsRow B 147 3 v n xs) (hn:n≤1000000) (i:Nat) (hi:i≤n) (r:ae) (gx cx:Nat) (hx:ai w gx 147 r.enc) (wT:v.ownBlock ≠ some gx) (hB:B≤w.heap.size) (h1:∀ u ∈ xs,u.oneCell'=true) :
  Calls wH 236 #[v,O U i,F (some ⟨gx,0,none⟩) 1 cx] w fun e w'=>∃ v',e=.returned v'∧w'.ownsRow B 147 3 v' (n+1) (xs.take (i * 3)++r.enc++xs.drop (i * 3))∧w.grownBy w' v.ownBlock:=by
 rcases Nat.lt_or_ge i n with wQ | xq
 ·obtain ⟨hl,⟨rfl,rfl⟩ | ⟨g,cap,cur,rfl,hg,hh,hc,hc',yi,Ge⟩⟩:=xg
  ·omega
  ·by_cases FW:cap=n
   ·subst FW
    exact nK B g cap cur xs w hh yi Ge i wQ hn r gx cx hx hB h1
   ·exact nM B g n cap cur xs w hh yi oM hc' Ge i wQ hn r gx cx hx (fun e=>wT (by rw [e]; rfl)) hg h1
 ·have e:i=n:=oM
  subst e
  have hl:=xg.1
  rw [List.take_of_length_le oM,List.drop_eq_nil_of_le oM,List.append_nil]
  exact oU B v i xs w xg hn r gx cx hx hB
set_option maxRecDepth 100000 in
theorem oW (B:Nat) (v:Value) (n:Nat) (xs:List Value) (w:World) (xg:w.ownsRow B 147 3 v n xs) (hn:n≤1000000) (i:Nat) (hi:i < n) (h1:∀ u ∈ xs,u.oneCell'=true) :
  Calls wH 237 #[v,O U i,O U ((i:Int)+1)] w fun e w'=>∃ v',e=.returned v'∧w'.ownsRow B 147 3 v' (n - 1) (xs.take (i * 3)++xs.drop (i * 3+3))∧w.grownBy w' v.ownBlock∧v'.ownBlock=v.ownBlock:=by
 have mixed:wH.follows .mixedOrders=true:=kZ
 obtain ⟨i0,yE,yC,yh,Cv⟩:=info_parts ex
 obtain ⟨zD,⟨rfl,rfl⟩ | ⟨g,cap,cur,rfl,hg,hh,hc,CN,yi,xO⟩⟩:=xg
 ·omega
 have hL:ai w g 147 cur.toList:=ai.of hh
 have xY:cur.toList.length=cap * 3:=by rw [Array.length_toList,yi]
 have Hw:n * 3≤cap * 3:=Nat.mul_le_mul_right _ hc
 have Hv:(i+1) * 3=i * 3+3:=Nat.succ_mul i 3
 have Mh:(i+1) * 3≤n * 3:=Nat.mul_le_mul_right _ oM
 have zv:(n - 1) * 3+3=n * 3:=by rw [← Nat.succ_mul]; congr 1; omega
 have hcell:∀ j u,xs[j]?=some u→w.cell? ⟨g,j,none⟩=some u:=fun j u hu=>by
  rw [hL.cell]
  rw [← xO,List.getElem?_take] at hu
  split at hu
  ·exact hu
  ·cases hu
 have FG:(xs.drop ((i+1) * 3)).length=(n - (i+1)) * 3:=by rw [List.length_drop,zD,Nat.sub_mul]
 -- the source's address
 obtain ⟨A,hA,zX⟩ : ∃ A:Addr,(if cap=i+1 then some (⟨g,0,none⟩ : Addr) else some ⟨g,(i+1) * 3,none⟩)=some A∧∀ t u,(xs.drop ((i+1) * 3))[t]?=some u→w.drew.cell? (A.add t)=some u:=by
  by_cases h:cap=i+1
  ·refine ⟨⟨g,0,none⟩,by simp [h],fun t u hu=>?_⟩
   have h0:(xs.drop ((i+1) * 3)) = []:=List.eq_nil_of_length_eq_zero (by rw [FG,show n - (i+1)=0 by omega,Nat.zero_mul])
   rw [h0] at hu; cases hu
  ·refine ⟨⟨g,(i+1) * 3,none⟩,by simp [h],fun t u hu=>?_⟩
   rw [cR]; exact hcell _ u (by rwa [List.getElem?_drop] at hu)
 have xz:=run_append_room_cells (P:=wH) w.drew 38 38 147 i0 Tryz.underlying38 yE g 0 i cap A (n - (i+1)) (cap - (i+1)) (xs.drop ((i+1) * 3)) (by rw [yh]; exact FG) zX (fun u hu=>h1 u (List.mem_of_mem_drop hu)) oM
  (fun j hj=>by
   show (w.cell? _).isSome=true
   rw [yh,Nat.zero_add,hL.cell,List.getElem?_eq_getElem (by rw [xY]; rw [FG,Nat.sub_mul] at hj; omega)]; rfl) (fun j hj=>by show w.frozen? _=false; exact hL.frozen _)
 rw [yh,Nat.zero_add] at xz
 have Hx:i * 3+(xs.drop ((i+1) * 3)).length≤cur.toList.length:=by rw [FG,xY,Nat.sub_mul]; omega
 have BY:=jZ (ai.setCells (xs.drop ((i+1) * 3)) (i * 3) w.drew cur.toList hL.drew Hx)
 have zG:w.grownBy (w.drew.setCells g (i * 3) (xs.drop ((i+1) * 3))) (some g):=f8 _ _ _ ⟨rfl,rfl,rfl,Nat.le_refl _,fun _ _ _=>rfl⟩
 obtain ⟨W1,yP⟩ : ∃ W1,W1=w.drew.setCells g (i * 3) (xs.drop ((i+1) * 3)):=⟨_,rfl⟩
 rw [← yP] at xz BY zG
 have hlen' : i+(n - (i+1))=n - 1:=oM
 rw [hlen'] at xz
 have HR:=xz
 have hcm' : cap≤9223372036854775807:=by unfold maxLen at CN; omega
 have Ez:=jZ CN
 have Cw:=jZ xY
 have Gc:=jZ xO
 have BQ:=jZ zD
 have AY:=jZ FG
 have BR:Hid ((n - 1) * 3+([O U 0,O U 0,O U 0] : List Value).length≤(aZ cur.toList (i * 3) (xs.drop ((i+1) * 3))).length):=by
  unfold Hid; rw [bY _ _ _ Hx,xY]; simp; omega
 have DN:=jZ Hx
 have Gd : ¬ ((i:Int)=(i:Int)+1):=oM
 have ND:(i:Int)+1≤(n:Int):=oM
 have hb0:(0:Int)≤(i:Int)+1:=oM
 have xZ:i+1≤n:=oM
 have Mi : ¬ (cap=n - 1):=oM
 have Hy:n - (n - 1)=1:=oM
 have Mj:n - 1≤n:=oM
 have NE:n≤cap:=hc
 have NF:i≤cap:=oM
 have Ml:i+1≤cap:=oM
 have KQ:(i:Int)≤(cap:Int):=oM
 have NH:((i:Int)+1).toNat=i+1:=oM
 have HA:=jZ hA
 clear yP xz hcell zX yi xY xO zD FG Hx hh hL h1 CN Mh zv hA
 go_enter Tryz.func237,Tryz.ntmps237
 go_wp2
 go_still_tail 6,kZ
 change wpList _ _ _ _ _ w.drew
 go_wp2_with (first
  | (at_builtin; refine Lib.wpList_append_run _ rfl _ _ 38 38 rfl _ _ rfl ?w1 _ _ HR ?_)
  | (with_reducible show wpList _ _ _ (Oper.mk none (Op.call _) _ _ _ _ :: _) _ _; refine mh rfl _ 38 rfl 147 147 _ [O U 0,O U 0,O U 0] g ((n - 1) * 3) 1 (cap - (n - 1)) _ ?w2 Tryz.underlying38 Tryz.zeroValue147 oM ?w3 ?w4 BY BR ?_; rotate_right; intro W2 DL xL))
 case w1.inl =>
  have h:=HA.out
  rw [if_pos (by assumption)] at h
  exact Option.some.inj h
 case w1.inr =>
  have h:=HA.out
  rw [if_neg (by assumption)] at h
  rw [← Option.some.inj h,Hv]
 case w3=>kernel_rfl
 case w4=>simp [Value.oneCell']
 all_goals
  go_ret
  refine ⟨_,rfl,⟨?_,.inr ⟨g,_,(aZ (aZ cur.toList (i * 3) (xs.drop ((i+1) * 3))) ((n - 1) * 3) [O U 0,O U 0,O U 0]).toArray,rfl,hg,DL.out,oM,by have:=Ez.out; omega, ?_, ?_⟩⟩, ?_,rfl⟩
  ·rw [List.length_append,List.length_take,List.length_drop,BQ.out,Nat.sub_mul]; omega
  ·rw [List.size_toArray,bY _ _ _ BR.out,bY _ _ _ DN.out]; have:=Cw.out; omega
  ·show List.take _ (aZ _ _ _)=_
   rw [Hv]
   exact oQ cur.toList xs [O U 0,O U 0,O U 0] i 3 n rfl BQ.out hi Gc.out (by rw [Cw.out]; omega)
  ·exact ⟨xL.os.trans zG.os,xL.tape.trans zG.tape,xL.output.trans zG.output,jT zG.size xL.size,fun j hj hq=>(xL.block j (jL hj zG.size) hq).trans (zG.block j hj hq)⟩
end Go.Proofs.YtoeoimhemojdeaaGreatDoor
