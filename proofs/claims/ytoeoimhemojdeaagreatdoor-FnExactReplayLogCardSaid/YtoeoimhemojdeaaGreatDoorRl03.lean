/- Rl03: the texts QOuting OwnR OwnRow StepI StepC StepD Facts FactsT, joined into one file. -/
import Derived.StillTailTactics
import Derived.Laws.OwnMore
import Derived.WalkKit
import Derived.Orders
import Derived.Deep.Draws
import Derived.Test.YtoeoimhemojdeaaGreatDoorRl01
import Derived.Test.YtoeoimhemojdeaaGreatDoorRl02

set_option linter.unusedVariables false
open Go.Value renaming int → O, slice → F, string → sQ
open Go.IntKind renaming i64 → U

namespace Go.Proofs.YtoeoimhemojdeaaGreatDoor
open Go.RowKit
set_option maxRecDepth 100000 in
set_option maxHeartbeats 2000000 in
theorem jL (cf:ae→Int) (tg:ae) (g:Nat) (lb:Array Value) (eg:∀ args w,(callFunc g args).run Tryz.prog w=.ok (.enter g args) w) (A:Option Addr) (c:Nat) (l:List ae) (w:World)
  (hf:∀ (t:ae) (p:ao w.heap.size w),Calls Tryz.prog g (#[t.val,tg.val]++lb) p.val fun e w'=>e=.returned (O U (cf t))∧Below p.val.heap.size p.val w') (h:dI w w.heap.size A l) (hl:l.length≤1000000)
  (b:Nat) (hb:b≤l.length) (hlo:∀ i (h:i < l.length),i < b→cf l[i] < 0) (hhi:∀ i (h:i < l.length),b≤i→¬ cf l[i] < 0) (fd:Bool) (hfd:∀ h:b < l.length,fd=decide (cf l[b]=0)) (hfd' : b=l.length→fd=false) :
  Calls Tryz.prog 235 #[F A l.length c,tg.val,.func (.func g) #[] lb] w fun e w'=>e=.returned (.tuple #[O U b,.bool fd])∧Below w.heap.size w w':=by
 have b0:=(Below.refl w.heap.size w).alloc (Nat.le_refl _) (.cells #[O U tg.k,O U tg.p,O U tg.c] 147)
 have hL0:=ai.new w 147 #[O U tg.k,O U tg.p,O U tg.c]
 have HC:=Lib.hid hf; clear hf
 have HLO:=Lib.hid hlo; clear hlo
 have HHI:=Lib.hid hhi; clear hhi
 have HFD:=Lib.hid hfd; clear hfd
 have HFD':=Lib.hid hfd'; clear hfd'
 go_enter Tryz.func235,Tryz.ntmps235
 go_wp2
 have h0:=br.up h b0 (Nat.le_refl _)
 generalize w.alloc (.cells #[O U tg.k,O U tg.p,O U tg.c] 147)=W at b0 hL0 h0 ⊢
 have hrd:=(show dI W W.heap.size A l from h0).el
 obtain ⟨d0,d1,d2⟩:=eY.of (r:=tg) hL0
 go_loopw [9,10] (fun s9 s10 wr=>∃ lo hi:Nat,s9=O U lo∧s10=O U hi∧lo≤b∧b≤hi∧hi≤l.length∧(∃ q:ao W.heap.size W,wr=q.val)) (fun s9 s10 _=>(intOf s10).toNat - (intOf s9).toNat)
 case atStart=>exact ⟨0,l.length,rfl,rfl,Nat.zero_le _,hb,Nat.le_refl _,ao.start _ _,rfl⟩
 case round =>
  obtain ⟨lo,hi,rfl,rfl,h1,h2,h3,⟨q,rfl⟩⟩:=hrel
  by_cases hlt:lo < hi
  ·have hm:(lo+hi) / 2 < l.length:=by omega
   obtain ⟨bb,off,rfl,hbb,hcell⟩:=hrd (by omega)
   obtain ⟨c0,c1,c2⟩:=hcell ((lo+hi) / 2) hm
   have k1:cf l[(lo+hi) / 2] < 0→(lo+hi) / 2+1≤b:=fun hv=>by
    rcases Nat.lt_or_ge ((lo+hi) / 2) b with h | h
    ·exact h
    ·have:=HHI.out _ hm h; omega
   have k2 : ¬ cf l[(lo+hi) / 2] < 0→b≤(lo+hi) / 2:=fun hv=>by
    rcases Nat.lt_or_ge ((lo+hi) / 2) b with h | h
    ·have:=HLO.out _ hm h; omega
    ·exact h
   obtain ⟨x,hxe⟩ : ∃ x,x=l[(lo+hi) / 2]:=⟨_,rfl⟩
   rw [← hxe] at c0 c1 c2 k1 k2
   have hcx:=fun p:ao W.heap.size W=>HC.out x ⟨p.val,b0.trans (p.below.mono b0.size)⟩
   obtain ⟨V,hV⟩ : ∃ V,cf x=V:=⟨_,rfl⟩
   have HVV:Hid (Value.int .i64 (cf x)=O U V):=by rw [hV]; rfl
   rw [hV] at k1 k2
   have hX:=Lib.hid hV; clear hV
   clear hxe hcell hrd
   by_cases hv:V < 0
   ·have K:=k1 hv
    clear k1 k2
    go_wp2
    refine bc _ (by kernel_rfl) (by kernel_rfl) ?_
    repeat (any_goals (first | go_big_quiet_step ((with_reducible refine aP HVV (Nat.le_refl _) (hcx _))) | (refine wpQuiet_step (fun K hK=>?_); go_simp; split <;> (refine hK _ ?_; clear hK K))))
    all_goals (refine wpQuiet_nil ?_; rintro _ ⟨q1,rfl⟩)
    all_goals go_wp2
    go_roundw
    case rel=>exact ⟨(lo+hi) / 2+1,hi,by go_num,rfl,K,h2,h3,⟨q1,rfl⟩⟩
    case measure=>simp [intOf]; omega
   ·have K:=k2 hv
    clear k1 k2
    go_wp2
    refine bc _ (by kernel_rfl) (by kernel_rfl) ?_
    repeat (any_goals (first | go_big_quiet_step ((with_reducible refine aP HVV (Nat.le_refl _) (hcx _))) | (refine wpQuiet_step (fun K hK=>?_); go_simp; split <;> (refine hK _ ?_; clear hK K))))
    all_goals (refine wpQuiet_nil ?_; rintro _ ⟨q1,rfl⟩)
    all_goals go_wp2
    go_roundw
    case rel=>exact ⟨lo,(lo+hi) / 2,rfl,by go_num,h1,K,by omega,⟨q1,rfl⟩⟩
    case measure=>simp [intOf]; omega
  ·obtain rfl:hi=b:=by omega
   obtain rfl:lo=hi:=by omega
   by_cases hlb:lo < l.length
   ·obtain ⟨bb,off,rfl,hbb,hcell⟩:=hrd (by omega)
    obtain ⟨c0,c1,c2⟩:=hcell lo hlb
    have HE:=Lib.hid (HFD.out hlb)
    obtain ⟨x,hxe⟩ : ∃ x,x=l[lo]:=⟨_,rfl⟩
    rw [← hxe] at c0 c1 c2 HE
    have hcx:=fun p:ao W.heap.size W=>HC.out x ⟨p.val,b0.trans (p.below.mono b0.size)⟩
    obtain ⟨V,hV⟩ : ∃ V,cf x=V:=⟨_,rfl⟩
    have HVV:Hid (Value.int .i64 (cf x)=O U V):=by rw [hV]; rfl
    rw [hV] at HE
    have hX:=Lib.hid hV; clear hV
    clear hxe hcell hrd
    by_cases hv:V=0
    ·have hv' : (V == 0)=true:=by simp [hv]
     have HV:Hid (fd=true):=by unfold Hid; rw [HE.out,decide_eq_true hv]
     clear hv
     go_wp2
     refine bc _ (by kernel_rfl) (by kernel_rfl) ?_
     repeat (any_goals (first | go_big_quiet_step ((with_reducible refine aP HVV (Nat.le_refl _) (hcx _))) | (refine wpQuiet_step (fun K hK=>?_); go_simp; split <;> (refine hK _ ?_; clear hK K))))
     all_goals (refine wpQuiet_nil ?_; rintro _ ⟨q1,rfl⟩)
     all_goals go_wp2
     go_ret2
     exact ⟨by rw [HV.out]; rfl,b0.trans (q1.below.mono b0.size)⟩
    ·have hv' : (V == 0)=false:=by simp [hv]
     have HV:Hid (fd=false):=by unfold Hid; rw [HE.out,decide_eq_false hv]
     clear hv
     go_wp2
     refine bc _ (by kernel_rfl) (by kernel_rfl) ?_
     repeat (any_goals (first | go_big_quiet_step ((with_reducible refine aP HVV (Nat.le_refl _) (hcx _))) | (refine wpQuiet_step (fun K hK=>?_); go_simp; split <;> (refine hK _ ?_; clear hK K))))
     all_goals (refine wpQuiet_nil ?_; rintro _ ⟨q1,rfl⟩)
     all_goals go_wp2
     go_ret2
     exact ⟨by rw [HV.out]; rfl,b0.trans (q1.below.mono b0.size)⟩
   ·have HV:=Lib.hid (HFD'.out (by omega))
    clear hrd
    have hd:decide (lo < l.length)=false:=decide_eq_false hlb
    go_wp2
    refine bc _ (by kernel_rfl) (by kernel_rfl) ?_
    repeat (any_goals (first | go_big_quiet_step ((fail)) | (refine wpQuiet_step (fun K hK=>?_); go_simp; split <;> (refine hK _ ?_; clear hK K))))
    all_goals (refine wpQuiet_nil ?_; rintro _ ⟨q1,rfl⟩)
    all_goals go_wp2
    go_ret2
    exact ⟨by rw [HV.out]; rfl,b0.trans (q1.below.mono b0.size)⟩
theorem ep {l:List ae} : ∀ u ∈ l.flatMap ae.enc,u.oneCell'=true:=by
 intro u hu
 obtain ⟨r,_,hr⟩:=List.mem_flatMap.1 hu
 simp only [ae.enc,List.mem_cons,List.not_mem_nil,or_false] at hr
 rcases hr with rfl | rfl | rfl <;> rfl
theorem lk (A:Option Addr) (c:Nat) (l:List ae) (w:World) (h:dI w w.heap.size A l) (hn:l.length≤1000000) :
  Calls Tryz.prog 148 #[F A l.length c] w fun e w'=>∃ A' c',e=.returned (F A' l.length c')∧w'.ownsRow w.heap.size 147 3 (F A' l.length c') l.length (l.flatMap ae.enc)∧Below w.heap.size w w':=by
 rcases A with _ | ad
 ·have h0:l.length=0:=by
   rcases Nat.eq_zero_or_pos l.length with h0 | h0
   ·exact h0
   ·obtain ⟨_,_,h1,_⟩:=h.at_ h0; cases h1
  obtain rfl:l = []:=List.eq_nil_of_length_eq_zero h0
  have hq:=fun W=>Lib.run_eql_slice_nil (P:=Tryz.prog) W 38 147 none 0 c 0 0 Tryz.underlying38
  go_enter Tryz.func148,Tryz.ntmps148
  go_wp2_with fail
  go_ret
  exact ⟨none,0,rfl,⟨by simp,.inl ⟨rfl,rfl⟩⟩,Below.refl _ _⟩
 ·have HO:Hid ((w.alloc (.cells #[] 147)).ownsRow w.heap.size 147 3 (F (some ⟨w.heap.size,0,none⟩) 0 0) 0 []):=cz (ai.new w 147 #[]) (Nat.le_refl _)
  have b1:=(Below.refl w.heap.size w).alloc (Nat.le_refl _) (.cells #[] 147)
  have HR:=Lib.hid (br.below h b1)
  have hq:=fun W=>Lib.run_eql_slice_nil (P:=Tryz.prog) W 38 147 (some ad) l.length c 0 0 Tryz.underlying38
  go_enter Tryz.func148,Tryz.ntmps148
  go_wp2_with (at_builtin; refine fZ rfl _ _ 38 rfl 147 _ 3 24 Tryz.underlying38 dE rfl (by omega) (by omega) w.heap.size _ 0 [] rfl HO w.heap.size (some ad) l.length c (l.flatMap ae.enc) rfl HR ep (by omega) b1.size ?_; intro v' w1 hown _ hb2 _)
  go_ret
  have ho:=hown.out
  rw [Nat.zero_add,List.nil_append] at ho
  obtain ⟨A',c',rfl⟩:=aw ho
  exact ⟨A',c',rfl,ho,b1.trans hb2⟩
set_option maxRecDepth 100000 in
set_option maxHeartbeats 4000000 in
theorem mv (B:Nat) (v:Value) (n:Nat) (xs:List Value) (w:World) (hown:w.ownsRow B 147 3 v n xs) (hn:n≤1000000) (r:ae) (gx cx:Nat) (hx:ai w gx 147 r.enc) (hB:B≤w.heap.size) :
  Calls Tryz.prog 236 #[v,O U n,F (some ⟨gx,0,none⟩) 1 cx] w fun e w'=>∃ v',e=.returned v'∧w'.ownsRow B 147 3 v' (n+1) (xs++r.enc)∧w.grownBy w' v.ownBlock:=by
 obtain ⟨i0,hi0,hz0,hzs,hzb⟩:=info_parts dE
 obtain ⟨v',w',hrun,h2,h3,_,_⟩:=run_append_own_at (P:=Tryz.prog) w B 38 38 147 i0 _ 3 24 Tryz.underlying38 hi0 hz0 hzs hzb rfl (by omega) v n xs hown ⟨gx,0,none⟩ 1 cx r.enc rfl (fun j u hj=>by rw [bY,Nat.zero_add,hx.cell]; exact hj) (by simp [ae.enc,Value.oneCell']) (by unfold maxLen; omega) (by omega) hB
 have HO:=Lib.hid h2; clear h2
 have HG:=Lib.hid h3; clear h3
 have HR:=Lib.hid hrun; clear hrun
 obtain ⟨_,⟨rfl,rfl⟩ | ⟨g,cap,cur,rfl,hg,hh,hc,hc',_,_⟩⟩:=hown
 ·go_enter Tryz.func236,Tryz.ntmps236
  go_wp2_with (at_builtin; refine Lib.wpList_append_run _ rfl _ _ 38 38 rfl _ _ rfl rfl v' w' HR.out ?_)
  go_ret
  exact ⟨v',rfl,HO.out,HG.out⟩
 ·have hc2:cap≤9223372036854775807:=by unfold maxLen at hc'; omega
  clear hc'
  by_cases hcn:cap=n
  all_goals
   go_enter Tryz.func236,Tryz.ntmps236
   go_wp2_with (at_builtin; refine Lib.wpList_append_run _ rfl _ _ 38 38 rfl _ _ rfl rfl v' w' HR.out ?_)
   go_ret
   exact ⟨v',rfl,HO.out,HG.out⟩
set_option maxRecDepth 100000 in
set_option maxHeartbeats 4000000 in
theorem lO (B g n:Nat) (cur:Array Value) (xs:List Value) (w:World) (hL:ai w g 147 cur.toList) (hcs:cur.size=n * 3) (hcur:cur.toList.take (n * 3)=xs) (i:Nat) (hi:i < n) (hn:n≤1000000) (r:ae) (gx cx:Nat) (hx:ai w gx 147 r.enc) (hB:B≤w.heap.size) (h1:∀ u ∈ xs,u.oneCell'=true) :
  Calls Tryz.prog 236 #[F (some ⟨g,0,none⟩) n n,O U i,F (some ⟨gx,0,none⟩) 1 cx] w fun e w'=>∃ v',e=.returned v'∧w'.ownsRow B 147 3 v' (n+1) (xs.take (i * 3)++r.enc++xs.drop (i * 3))∧w.grownBy w' (some g):=by
 have mixed:Tryz.prog.follows .mixedOrders=true:=by kernel_rfl
 obtain ⟨i0,hi0,hz0,hzs,hzb⟩:=info_parts dE
 have hxl:xs.length=n * 3:=by rw [← hcur,List.length_take,Array.length_toList,hcs,Nat.min_self]
 have hik:i * 3≤n * 3:=Nat.mul_le_mul_right _ (by omega)
 have hsz:(Tryz.prog.info? 147).map (·.size)=some 3:=by rw [hi0]; simp [hzs]
 have hkk:(n:Int)+1 - (i:Int)=((n+1 - i:Nat):Int):=by omega
 have hik2:i+(n+1 - i)=n+1:=by omega
 have hcell:∀ j u,xs[j]?=some u→w.cell? ⟨g,j,none⟩=some u:=fun j u hu=>by
  rw [hL.cell]
  rw [← hcur,List.getElem?_take] at hu
  split at hu
  ·exact hu
  ·cases hu
 have hold:(Builtin.firstCells i0.size i (F (some ⟨g,0,none⟩) i n)).run Tryz.prog w.drew=.ok (xs.take (i * 3)).toArray w.drew:=by
  rw [hzs]
  exact run_firstCells_some w.drew 3 i ⟨g,0,none⟩ i n (xs.take (i * 3)) (by rw [List.length_take]; omega) (fun j u hj=>by
   rw [bY,Nat.zero_add]
   rw [List.getElem?_take] at hj
   split at hj
   ·exact hcell j u hj
   ·cases hj)
 have hrz:=Lib.run_append_grow_zeros (P:=Tryz.prog) w 38 3 38 147 i0 _ .i64 .i64 Tryz.underlying38 Tryz.underlying3 hi0 hz0 (some ⟨g,0,none⟩) i n (xs.take (i * 3)) hold (n+1 - i) (by omega) (by omega) (by omega) (by omega) (by rw [hzb]; omega) (by rw [hzb,hik2]; exact growslice_fits (by omega) (by omega))
 rw [hik2,← hkk] at hrz
 obtain ⟨G,hG⟩ : ∃ G,G=grownCap w (n+1) n 147:=⟨_,rfl⟩
 have hGn:n+1≤G:=by rw [hG]; exact grownCap_ge w _ _ _
 have hG63:G≤maxLen:=by rw [hG]; exact grownCap_le_maxLen w (n+1) n 147 (by unfold maxLen; omega)
 have hG64:G≤9223372036854775807:=by unfold maxLen at hG63; omega
 rw [← hG] at hrz
 obtain ⟨Z,hZ⟩ : ∃ Z:List Value,Z=(Builtin.zeroCells (Value.agg #[O U 0,O U 0,O U 0]).cells (n+1 - i)++Builtin.zeroCells (Value.agg #[O U 0,O U 0,O U 0]).cells (G - (n+1))).toList:=⟨_,rfl⟩
 have hZl:Z.length=(n+1 - i) * 3+(G - (n+1)) * 3:=by rw [hZ,Array.length_toList,Array.size_append,size_zeroCells,size_zeroCells]; rfl
 obtain ⟨ROW,hROW⟩ : ∃ ROW:Array Value,ROW=(xs.take (i * 3)).toArray++Builtin.zeroCells (Value.agg #[O U 0,O U 0,O U 0]).cells (n+1 - i)++Builtin.zeroCells (Value.agg #[O U 0,O U 0,O U 0]).cells (G - (n+1)):=⟨_,rfl⟩
 have hRl:ROW.toList=xs.take (i * 3)++Z:=by rw [hROW,hZ]; simp
 rw [← hROW] at hrz
 clear hROW hZ hG hold hcs hcur
 obtain ⟨W1,hW1⟩ : ∃ W1,W1=w.drew.alloc (.cells ROW 147):=⟨_,rfl⟩
 rw [← hW1] at hrz
 have LN:ai W1 w.heap.size 147 (xs.take (i * 3)++Z):=by rw [hW1,← hRl]; exact ai.new w.drew 147 ROW
 have hb1:Below w.heap.size w W1:=by rw [hW1]; exact ((Below.refl w.heap.size w).drew).alloc (Nat.le_refl _) _
 have hLg:g < w.heap.size:=hL.lt
 have hLx:gx < w.heap.size:=hx.lt
 clear hW1 hRl ROW
 have hlen:(xs.take (i * 3)++Z).length=G * 3:=by
  rw [List.length_append,List.length_take,hZl,hxl,Nat.min_eq_left hik,← Nat.add_mul,← Nat.add_mul]; congr 1; omega
 have hGk:(n+1) * 3≤G * 3:=Nat.mul_le_mul_right _ hGn
 have hnk:(n+1) * 3=n * 3+3:=Nat.succ_mul n 3
 have HL0:=Lib.hid LN; clear LN
 have HF0:Hid (i * 3+r.enc.length≤(xs.take (i * 3)++Z).length):=by unfold Hid; rw [ae.enc_len,hlen]; omega
 have HX1:Hid (∀ j v,r.enc[j]?=some v→W1.cell? ((⟨gx,0,none⟩ : Addr).add j)=some v):=fun j u hj=>by rw [bY,Nat.zero_add,(hx.below hb1 hLx).cell]; exact hj
 have HE1:Hid (∀ v ∈ r.enc,v.oneCell'=true):=by unfold Hid; simp [ae.enc,Value.oneCell']
 have HE2:Hid (∀ v ∈ xs.drop (i * 3),v.oneCell'=true):=fun v hv=>h1 v (List.mem_of_mem_drop hv)
 have HC:Hid (∀ j u,xs[j]?=some u→W1.cell? ⟨g,j,none⟩=some u):=fun j u hu=>(hb1.cell hLg).trans (hcell j u hu)
 have HLn:Hid ((xs.take (i * 3)++Z).length=G * 3):=hlen
 have HXL:=Lib.hid hxl
 have HDL:Hid ((xs.drop (i * 3)).length=(n - i) * 3):=by unfold Hid; rw [List.length_drop,hxl,Nat.sub_mul]
 have hGi : ¬ (G=i):=by omega
 have hGi1 : ¬ (G=i+1):=by omega
 have hni : ¬ (n=i):=by omega
 have hz2 : ¬ ((i:Int)=(n:Int)):=by omega
 have hz3:(n:Int) < (n:Int)+1:=by omega
 have hmin1:Nat.min 1 (n+1 - i)=1:=by simp only [Nat.min_def]; split <;> omega
 have hmin2:Nat.min (n - i) (n - i)=n - i:=Nat.min_self _
 have hw1:IntKind.i64.wrap ((i:Int)+1)=(i:Int)+1:=by rw [IntKind.wrap_i64]; omega
 have hb1' : (0:Int)≤(i:Int)+1:=by omega
 have hin:i≤n:=by omega
 have HR:=hrz
 clear hrz hcell hL h1 hx hlen hxl hik2 hkk hsz
 go_enter Tryz.func236,Tryz.ntmps236
 go_wp2_with (first
  | (at_builtin; refine Lib.wpList_append_run _ rfl _ _ 38 3 rfl _ _ rfl rfl _ _ HR ?_)
  | (with_reducible show wpList _ _ _ (Oper.mk (some 45) _ _ _ _ _ :: _) _ _; refine cg rfl _ _ 38 rfl 147 147 3 w.heap.size (i * 3) (n+1 - i) (G - i) ⟨gx,0,none⟩ 1 cx 1 r.enc _ rfl rfl Tryz.underlying38 ?u1 ?u2 (by rw [ae.enc_len]) HL0 HF0 HX1 HE1 ?_; rotate_right; intro W2 HL2 hg2))
 case u1=>rw [hi0]; simp [hzs]
 case u2=>exact hmin1
 have hWs:w.heap.size≤W1.heap.size:=hb1.size
 have hW1g:w.heap.size < W1.heap.size:=HL0.out.lt
 have LG2:∀ j u,xs[j]?=some u→W2.cell? ⟨g,j,none⟩=some u:=fun j u hu=>(ii hg2 ⟨g,j,none⟩ (by simp only; omega) (by simp only; intro e; injection e with e; omega)).trans (HC.out j u hu)
 have HL2' : Hid (ai W2.drew w.heap.size 147 (aV (xs.take (i * 3)++Z) (i * 3) r.enc)):=HL2.out.drew
 have HF2:Hid ((i+1) * 3+(xs.drop (i * 3)).length≤(aV (xs.take (i * 3)++Z) (i * 3) r.enc).length):=by
  unfold Hid
  rw [bD _ _ _ HF0.out,HLn.out,HDL.out,← Nat.add_mul]
  exact Nat.mul_le_mul_right _ (by omega)
 have HX2:Hid (∀ j v,(xs.drop (i * 3))[j]?=some v→W2.drew.cell? ((⟨g,i * 3,none⟩ : Addr).add j)=some v):=fun j u hj=>by
  rw [bY]; exact LG2 _ u (by rwa [List.getElem?_drop] at hj)
 clear LG2 HX1
 go_still_tail 8,(by kernel_rfl)
 change wpList _ _ _ _ _ W2.drew
 go_wp2_with (with_reducible show wpList _ _ _ (Oper.mk (some 54) _ _ _ _ _ :: _) _ _; refine cg rfl _ _ 38 rfl 147 147 3 w.heap.size ((i+1) * 3) (n - i) (G - (i+1)) ⟨g,i * 3,none⟩ (n - i) (n - i) (n - i) (xs.drop (i * 3)) _ rfl rfl Tryz.underlying38 ?v3 hmin2 HDL.out HL2' HF2 HX2 HE2 ?_; rotate_right; intro W3 HL3 hg3)
 case v3=>rw [hi0]; simp [hzs]
 go_ret
 have hw3:Below w.heap.size w W3:=((hb1.grown hg2 hWs (by rintro _ ⟨⟩; exact Nat.le_refl _)).drew).grown hg3 (by have:=hg2.size; simp; omega) (by rintro _ ⟨⟩; exact Nat.le_refl _)
 refine ⟨_,rfl,⟨?_,.inr ⟨w.heap.size,G,(aV (aV (xs.take (i * 3)++Z) (i * 3) r.enc) ((i+1) * 3) (xs.drop (i * 3))).toArray,rfl,hB,HL3.out,hGn,hG63, ?_, ?_⟩⟩,⟨hw3.os,hw3.tape,hw3.output,hw3.size,fun j hj _=>hw3.block j hj⟩⟩
 ·rw [List.length_append,List.length_append,List.length_take,ae.enc_len,HDL.out,HXL.out,Nat.sub_mul]; omega
 ·rw [List.size_toArray,bD _ _ _ HF2.out,bD _ _ _ HF0.out,HLn.out]
 ·show List.take _ (aV _ _ _)=_
  exact kN xs r.enc Z i 3 n (ae.enc_len r) HXL.out hin (by rw [hZl,← Nat.add_mul,← Nat.add_mul]; exact Nat.mul_le_mul_right _ (by omega))
set_option maxRecDepth 100000 in
set_option maxHeartbeats 4000000 in
theorem lP (B g n cap:Nat) (cur:Array Value) (xs:List Value) (w:World) (hL:ai w g 147 cur.toList) (hcs:cur.size=cap * 3) (hroom:n+1≤cap) (hcm:cap≤maxLen) (hcur:cur.toList.take (n * 3)=xs) (i:Nat) (hi:i < n) (hn:n≤1000000) (r:ae) (gx cx:Nat) (hx:ai w gx 147 r.enc) (hne:gx ≠ g) (hB:B≤g) (h1:∀ u ∈ xs,u.oneCell'=true) :
  Calls Tryz.prog 236 #[F (some ⟨g,0,none⟩) n cap,O U i,F (some ⟨gx,0,none⟩) 1 cx] w fun e w'=>∃ v',e=.returned v'∧w'.ownsRow B 147 3 v' (n+1) (xs.take (i * 3)++r.enc++xs.drop (i * 3))∧w.grownBy w' (some g):=by
 have mixed:Tryz.prog.follows .mixedOrders=true:=by kernel_rfl
 obtain ⟨i0,hi0,hz0,hzs,hzb⟩:=info_parts dE
 have hnk:n * 3≤cap * 3:=Nat.mul_le_mul_right _ (by omega)
 have hnk1:(n+1) * 3≤cap * 3:=Nat.mul_le_mul_right _ hroom
 have hcl:cur.toList.length=cap * 3:=by rw [Array.length_toList,hcs]
 have hxl:xs.length=n * 3:=by rw [← hcur,List.length_take,hcl]; omega
 have hik:i * 3≤n * 3:=Nat.mul_le_mul_right _ (by omega)
 have hcell:∀ j u,xs[j]?=some u→w.cell? ⟨g,j,none⟩=some u:=fun j u hu=>by
  rw [hL.cell]
  rw [← hcur,List.getElem?_take] at hu
  split at hu
  ·exact hu
  ·cases hu
 have hov:∀ ob lb cb,(callFunc 246 #[F (some ⟨gx,0,none⟩) 1 cx,F (some ⟨g,ob,none⟩) lb cb]).run Tryz.prog w=.ok (.value (.bool false)) w:=fun ob lb cb =>
  gP w 246 Tryz.f246 38 4 147 (by kernel_rfl) (by kernel_rfl) (by kernel_rfl) (by kernel_rfl) (by kernel_rfl) Tryz.underlying38 3 Tryz.sizeOf147 gx g 0 ob 1 cx lb cb hne _ _ _ _ hx hL (by rw [hcl]; omega)
 have hc63:cap≤9223372036854775807:=by unfold maxLen at hcm; omega
 have HL0:=Lib.hid hL
 have HE1:Hid (∀ v ∈ r.enc,v.oneCell'=true):=by unfold Hid; simp [ae.enc,Value.oneCell']
 have HE2:Hid (∀ v ∈ xs.drop (i * 3),v.oneCell'=true):=fun v hv=>h1 v (List.mem_of_mem_drop hv)
 have HXL:=Lib.hid hxl
 have HCL:=Lib.hid hcl
 have HCU:=Lib.hid hcur
 have HCM:=Lib.hid hcm
 have HDL:Hid ((xs.drop (i * 3)).length=(n - i) * 3):=by unfold Hid; rw [List.length_drop,hxl,Nat.sub_mul]
 have HFA:Hid ((i+1) * 3+(xs.drop (i * 3)).length≤cur.toList.length):=by
  unfold Hid; rw [HDL.out,hcl,← Nat.add_mul]; exact Nat.mul_le_mul_right _ (by omega)
 have HXA:Hid (∀ j v,(xs.drop (i * 3))[j]?=some v→w.drew.cell? ((⟨g,i * 3,none⟩ : Addr).add j)=some v):=fun j u hj=>by
  rw [bY]; exact hcell _ u (by rwa [List.getElem?_drop] at hj)
 have HLA:Hid (ai w.drew g 147 cur.toList):=hL.drew
 have hxlt:gx < w.heap.size:=hx.lt
 have HX:=Lib.hid hx
 have hz1 : ¬ ((i:Int)=(n:Int)):=by omega
 have hz2 : ¬ ((cap:Int) < (n:Int)+1):=by omega
 have hci : ¬ (cap=i):=by omega
 have hci1 : ¬ (cap=i+1):=by omega
 have hin:i≤n:=by omega
 have hin1:i≤n+1:=by omega
 have hint:(i:Int)≤(n:Int)+1:=by omega
 have hw1:IntKind.i64.wrap ((i:Int)+1)=(i:Int)+1:=by rw [IntKind.wrap_i64]; omega
 have hb1' : (0:Int)≤(i:Int)+1:=by omega
 have hmin2:Nat.min (n+1 - i) (n - i)=n - i:=by simp only [Nat.min_def]; split <;> omega
 have hmin1:Nat.min 1 (n+1 - i)=1:=by simp only [Nat.min_def]; split <;> omega
 clear hcl hcur hcs hxl hL hx hcell h1 hcm
 go_enter Tryz.func236,Tryz.ntmps236
 go_wp2_with (simp only [hov])
 go_still_tail 8,(by kernel_rfl)
 change wpList _ _ _ _ _ w.drew
 go_wp2_with (first
  | (with_reducible show wpList _ _ _ (Oper.mk (some 77) _ _ _ _ _ :: _) _ _; refine cg rfl _ _ 38 rfl 147 147 3 g ((i+1) * 3) (n - i) (cap - (i+1)) ⟨g,i * 3,none⟩ (n+1 - i) (cap - i) (n - i) (xs.drop (i * 3)) _ rfl rfl Tryz.underlying38 ?v3 hmin2 HDL.out HLA HFA HXA HE2 ?_; rotate_right; intro W2 HL2 hg2)
  | (with_reducible show wpList _ _ _ (Oper.mk (some 82) _ _ _ _ _ :: _) _ _; refine cg rfl _ _ 38 rfl 147 147 3 g (i * 3) (n+1 - i) (cap - i) ⟨gx,0,none⟩ 1 cx 1 r.enc _ rfl rfl Tryz.underlying38 ?v4 hmin1 ?v5 HL2 ?v6 ?v7 HE1 ?_; rotate_right; intro W3 HL3 hg3))
 case v3=>rw [hi0]; simp [hzs]
 case v4=>rw [hi0]; simp [hzs]
 case v5=>rw [ae.enc_len]
 case v6=>unfold Hid; rw [bD _ _ _ HFA.out,HCL.out,ae.enc_len]; omega
 case v7=>exact fun j u hj=>by rw [bY,Nat.zero_add,(ii hg2 ⟨gx,j,none⟩ hxlt (by simp only; intro e; injection e with e; exact hne e)),HX.out.drew.cell]; exact hj
 have HF6:Hid (i * 3+r.enc.length≤(aV cur.toList ((i+1) * 3) (xs.drop (i * 3))).length):=by unfold Hid; rw [bD _ _ _ HFA.out,HCL.out,ae.enc_len]; omega
 go_ret
 have e1:(i+1) * 3=i * 3+3:=Nat.succ_mul i 3
 refine ⟨_,rfl,⟨?_,.inr ⟨g,cap,(aV (aV cur.toList ((i+1) * 3) (xs.drop (i * 3))) (i * 3) r.enc).toArray,rfl,hB,HL3.out,hroom,HCM.out, ?_, ?_⟩⟩, ?_⟩
 ·rw [List.length_append,List.length_append,List.length_take,ae.enc_len,HDL.out,HXL.out,Nat.sub_mul]; omega
 ·rw [List.size_toArray,bD _ _ _ HF6.out,bD _ _ _ HFA.out,HCL.out]
 ·show List.take _ (aV _ _ _)=_
  rw [e1]
  exact jh cur.toList xs r.enc i 3 n (ae.enc_len r) HXL.out hin HCU.out (by rw [HCL.out]; exact hnk1)
 ·exact ⟨hg3.os.trans hg2.os,hg3.tape.trans hg2.tape,hg3.output.trans hg2.output,Nat.le_trans hg2.size hg3.size,fun j hj hq=>(hg3.block j (Nat.lt_of_lt_of_le hj hg2.size) hq).trans (hg2.block j hj hq)⟩
theorem mw (B:Nat) (v:Value) (n:Nat) (xs:List Value) (w:World) (hown:w.ownsRow B 147 3 v n xs) (hn:n≤1000000) (i:Nat) (hi:i≤n) (r:ae) (gx cx:Nat) (hx:ai w gx 147 r.enc) (hne:v.ownBlock ≠ some gx) (hB:B≤w.heap.size) (h1:∀ u ∈ xs,u.oneCell'=true) :
  Calls Tryz.prog 236 #[v,O U i,F (some ⟨gx,0,none⟩) 1 cx] w fun e w'=>∃ v',e=.returned v'∧w'.ownsRow B 147 3 v' (n+1) (xs.take (i * 3)++r.enc++xs.drop (i * 3))∧w.grownBy w' v.ownBlock:=by
 rcases Nat.lt_or_ge i n with hlt | hge
 ·obtain ⟨hl,⟨rfl,rfl⟩ | ⟨g,cap,cur,rfl,hg,hh,hc,hc',hcs,hct⟩⟩:=hown
  ·omega
  ·by_cases hcn:cap=n
   ·subst hcn
    exact lO B g cap cur xs w hh hcs hct i hlt hn r gx cx hx hB h1
   ·exact lP B g n cap cur xs w hh hcs (by omega) hc' hct i hlt hn r gx cx hx (fun e=>hne (by rw [e]; rfl)) hg h1
 ·have e:i=n:=by omega
  subst e
  have hl:=hown.1
  rw [List.take_of_length_le (by omega),List.drop_eq_nil_of_le (by omega),List.append_nil]
  exact mv B v i xs w hown hn r gx cx hx hB
set_option maxRecDepth 100000 in
set_option maxHeartbeats 4000000 in
theorem mx (B:Nat) (v:Value) (n:Nat) (xs:List Value) (w:World) (hown:w.ownsRow B 147 3 v n xs) (hn:n≤1000000) (i:Nat) (hi:i < n) (h1:∀ u ∈ xs,u.oneCell'=true) :
  Calls Tryz.prog 237 #[v,O U i,O U ((i:Int)+1)] w fun e w'=>∃ v',e=.returned v'∧w'.ownsRow B 147 3 v' (n - 1) (xs.take (i * 3)++xs.drop (i * 3+3))∧w.grownBy w' v.ownBlock∧v'.ownBlock=v.ownBlock:=by
 have mixed:Tryz.prog.follows .mixedOrders=true:=by kernel_rfl
 obtain ⟨i0,hi0,hz0,hzs,hzb⟩:=info_parts dE
 obtain ⟨hxl,⟨rfl,rfl⟩ | ⟨g,cap,cur,rfl,hg,hh,hc,hcm,hcs,hcur⟩⟩:=hown
 ·omega
 have hL:ai w g 147 cur.toList:=ai.of hh
 have hcl:cur.toList.length=cap * 3:=by rw [Array.length_toList,hcs]
 have hnk:n * 3≤cap * 3:=Nat.mul_le_mul_right _ hc
 have hi1:(i+1) * 3=i * 3+3:=Nat.succ_mul i 3
 have hi2:(i+1) * 3≤n * 3:=Nat.mul_le_mul_right _ (by omega)
 have hn1:(n - 1) * 3+3=n * 3:=by rw [← Nat.succ_mul]; congr 1; omega
 have hcell:∀ j u,xs[j]?=some u→w.cell? ⟨g,j,none⟩=some u:=fun j u hu=>by
  rw [hL.cell]
  rw [← hcur,List.getElem?_take] at hu
  split at hu
  ·exact hu
  ·cases hu
 have hdl:(xs.drop ((i+1) * 3)).length=(n - (i+1)) * 3:=by rw [List.length_drop,hxl,Nat.sub_mul]
 -- the source's address
 obtain ⟨A,hA,hsrc⟩ : ∃ A:Addr,(if cap=i+1 then some (⟨g,0,none⟩ : Addr) else some ⟨g,(i+1) * 3,none⟩)=some A∧∀ t u,(xs.drop ((i+1) * 3))[t]?=some u→w.drew.cell? (A.add t)=some u:=by
  by_cases h:cap=i+1
  ·refine ⟨⟨g,0,none⟩,by simp [h],fun t u hu=>?_⟩
   have h0:(xs.drop ((i+1) * 3)) = []:=List.eq_nil_of_length_eq_zero (by rw [hdl,show n - (i+1)=0 by omega,Nat.zero_mul])
   rw [h0] at hu; cases hu
  ·refine ⟨⟨g,(i+1) * 3,none⟩,by simp [h],fun t u hu=>?_⟩
   rw [bY]; exact hcell _ u (by rwa [List.getElem?_drop] at hu)
 have hrun:=run_append_room_cells (P:=Tryz.prog) w.drew 38 38 147 i0 Tryz.underlying38 hi0 g 0 i cap A (n - (i+1)) (cap - (i+1)) (xs.drop ((i+1) * 3)) (by rw [hzs]; exact hdl) hsrc (fun u hu=>h1 u (List.mem_of_mem_drop hu)) (by omega)
  (fun j hj=>by
   show (w.cell? _).isSome=true
   rw [hzs,Nat.zero_add,hL.cell,List.getElem?_eq_getElem (by rw [hcl]; rw [hdl,Nat.sub_mul] at hj; omega)]; rfl) (fun j hj=>by show w.frozen? _=false; exact hL.frozen _)
 rw [hzs,Nat.zero_add] at hrun
 have hF1:i * 3+(xs.drop ((i+1) * 3)).length≤cur.toList.length:=by rw [hdl,hcl,Nat.sub_mul]; omega
 have HL1:=Lib.hid (ai.setCells (xs.drop ((i+1) * 3)) (i * 3) w.drew cur.toList hL.drew hF1)
 have hg1:w.grownBy (w.drew.setCells g (i * 3) (xs.drop ((i+1) * 3))) (some g):=fa _ _ _ ⟨rfl,rfl,rfl,Nat.le_refl _,fun _ _ _=>rfl⟩
 obtain ⟨W1,hW1⟩ : ∃ W1,W1=w.drew.setCells g (i * 3) (xs.drop ((i+1) * 3)):=⟨_,rfl⟩
 rw [← hW1] at hrun HL1 hg1
 have hlen' : i+(n - (i+1))=n - 1:=by omega
 rw [hlen'] at hrun
 have HR:=hrun
 have hcm' : cap≤9223372036854775807:=by unfold maxLen at hcm; omega
 have HCM:=Lib.hid hcm
 have HCL:=Lib.hid hcl
 have HCU:=Lib.hid hcur
 have HXL:=Lib.hid hxl
 have HDL:=Lib.hid hdl
 have HF2:Hid ((n - 1) * 3+([O U 0,O U 0,O U 0] : List Value).length≤(aV cur.toList (i * 3) (xs.drop ((i+1) * 3))).length):=by
  unfold Hid; rw [bD _ _ _ hF1,hcl]; simp; omega
 have HF1:=Lib.hid hF1
 have hz1 : ¬ ((i:Int)=(i:Int)+1):=by omega
 have hbi:(i:Int)+1≤(n:Int):=by omega
 have hb0:(0:Int)≤(i:Int)+1:=by omega
 have hin:i+1≤n:=by omega
 have hcn1 : ¬ (cap=n - 1):=by omega
 have hnn:n - (n - 1)=1:=by omega
 have hnle:n - 1≤n:=by omega
 have hnc:n≤cap:=hc
 have hic:i≤cap:=by omega
 have hic1:i+1≤cap:=by omega
 have hii:(i:Int)≤(cap:Int):=by omega
 have htn:((i:Int)+1).toNat=i+1:=by omega
 have HA:=Lib.hid hA
 clear hW1 hrun hcell hsrc hcs hcl hcur hxl hdl hF1 hh hL h1 hcm hi2 hn1 hA
 go_enter Tryz.func237,Tryz.ntmps237
 go_wp2
 go_still_tail 6,(by kernel_rfl)
 change wpList _ _ _ _ _ w.drew
 go_wp2_with (first
  | (at_builtin; refine Lib.wpList_append_run _ rfl _ _ 38 38 rfl _ _ rfl ?w1 _ _ HR ?_)
  | (with_reducible show wpList _ _ _ (Oper.mk none (Op.call _) _ _ _ _ :: _) _ _; refine kl rfl _ 38 rfl 147 147 _ [O U 0,O U 0,O U 0] g ((n - 1) * 3) 1 (cap - (n - 1)) _ ?w2 Tryz.underlying38 Tryz.zeroValue147 (by omega) ?w3 ?w4 HL1 HF2 ?_; rotate_right; intro W2 HL2 hg2))
 case w1.inl =>
  have h:=HA.out
  rw [if_pos (by assumption)] at h
  exact Option.some.inj h
 case w1.inr =>
  have h:=HA.out
  rw [if_neg (by assumption)] at h
  rw [← Option.some.inj h,hi1]
 case w3=>kernel_rfl
 case w4=>simp [Value.oneCell']
 all_goals
  go_ret
  refine ⟨_,rfl,⟨?_,.inr ⟨g,_,(aV (aV cur.toList (i * 3) (xs.drop ((i+1) * 3))) ((n - 1) * 3) [O U 0,O U 0,O U 0]).toArray,rfl,hg,HL2.out,by omega,by have:=HCM.out; omega, ?_, ?_⟩⟩, ?_,rfl⟩
  ·rw [List.length_append,List.length_take,List.length_drop,HXL.out,Nat.sub_mul]; omega
  ·rw [List.size_toArray,bD _ _ _ HF2.out,bD _ _ _ HF1.out]; have:=HCL.out; omega
  ·show List.take _ (aV _ _ _)=_
   rw [hi1]
   exact mr cur.toList xs [O U 0,O U 0,O U 0] i 3 n rfl HXL.out hi HCU.out (by rw [HCL.out]; omega)
  ·exact ⟨hg2.os.trans hg1.os,hg2.tape.trans hg1.tape,hg2.output.trans hg1.output,Nat.le_trans hg1.size hg2.size,fun j hj hq=>(hg2.block j (Nat.lt_of_lt_of_le hj hg1.size) hq).trans (hg1.block j hj hq)⟩
theorem ab {w w' : World} {B:Nat} {e:TypeId} {k:Nat} {v:Value} {n:Nat} {xs:List Value} (h:w.ownsRow B e k v n xs) (hb:Below w.heap.size w w'):w'.ownsRow B e k v n xs:=by
 obtain ⟨hl,h0 | ⟨g,cap,cur,hv,hg,hh,h1,h2,h3,h4⟩⟩:=h
 ·exact ⟨hl,.inl h0⟩
 ·have hlt:g < w.heap.size:=by
   rcases Nat.lt_or_ge g w.heap.size with hlt | hge
   ·exact hlt
   ·rw [Array.getElem?_eq_none hge] at hh; cases hh
  exact ⟨hl,.inr ⟨g,cap,cur,hv,hg,(hb.block g hlt).trans hh,h1,h2,h3,h4⟩⟩
theorem dq {w:World} {B:Nat} {e t:TypeId} {k:Nat} {v:Value} {n:Nat} {xs cs:List Value} (h:w.ownsRow B e k v n xs) {g:Nat} (hg:ai w g t cs) (hne:e ≠ t):some g ≠ v.ownBlock:=by
 obtain ⟨_,⟨rfl,_⟩ | ⟨g',cap,cur,rfl,_,hh,_⟩⟩:=h
 ·simp [Value.ownBlock]
 ·intro he
  simp only [Value.ownBlock,Option.some.injEq] at he
  subst he
  unfold ai at hg
  rw [hg] at hh
  injection hh with hh; injection hh with _ h2; exact hne h2.symm
theorem af {w:World} {B B' : Nat} {e:TypeId} {k:Nat} {v:Value} {n:Nat} {xs:List Value} (h:w.ownsRow B e k v n xs) (hB:B'≤B):w.ownsRow B' e k v n xs:=by
 obtain ⟨hl,h0 | ⟨g,cap,cur,hv,hg,hh⟩⟩:=h
 ·exact ⟨hl,.inl h0⟩
 ·exact ⟨hl,.inr ⟨g,cap,cur,hv,Nat.le_trans hB hg,hh⟩⟩
theorem dX {w w' : World} {B B' : Nat} {e e' : TypeId} {k k' : Nat} {v v' : Value} {n n' : Nat} {xs xs' : List Value} (h:w.ownsRow B e k v n xs) (h' : w.ownsRow B' e' k' v' n' xs') (hne:e' ≠ e) (hg:w.grownBy w' v'.ownBlock):w'.ownsRow B e k v n xs:=by
 refine h.kept hg ?_
 obtain ⟨_,⟨h1,_⟩ | ⟨g,cap,cur,h1,_,hh,_⟩⟩:=h
 ·left; rw [h1]; rfl
 ·right
  rw [h1]
  exact dq h' (g:=g) (t:=e) (cs:=cur.toList) (ai.of hh) hne
def lenOf:Value→Nat
 | F _ n _=>n
 | _=>0
theorem al {w:World} {B:Nat} {e t:TypeId} {k:Nat} {v:Value} {n:Nat} {xs cs:List Value} (h:w.ownsRow B e k v n xs) {g:Nat} (hg:ai w g t cs) (hne:e ≠ t) (i:Nat) (u:Value):(w.setCell ⟨g,i,none⟩ u).ownsRow B e k v n xs:=by
 have hf:=dq h hg hne
 obtain ⟨hl,h0 | ⟨g',cap,cur,hv,hg',hh,h1⟩⟩:=h
 ·exact ⟨hl,.inl h0⟩
 ·refine ⟨hl,.inr ⟨g',cap,cur,hv,hg',(Below.heap_setCell w _ u g' ?_).trans hh,h1⟩⟩
  intro e'
  subst hv
  exact hf (by simp only [Value.ownBlock]; rw [e'])
theorem bJ {w:World} {B:Nat} {e:TypeId} {k:Nat} {v:Value} {n:Nat} {xs:List Value} (h:w.ownsRow B e k v n xs) (hn:0 < n):∃ g cap rest,v=F (some ⟨g,0,none⟩) n cap∧B≤g∧ai w g e (xs++rest)∧n≤cap:=by
 obtain ⟨hl,h0 | ⟨g,cap,cur,hv,hg,hh,h1,h2,h3,h4⟩⟩:=h
 ·omega
 ·refine ⟨g,cap,cur.toList.drop (n * k),hv,hg, ?_,h1⟩
  have:xs++cur.toList.drop (n * k)=cur.toList:=by rw [← h4]; exact List.take_append_drop _ _
  rw [this]; exact ai.of hh
theorem kP {w:World} {B g cap:Nat} {e:TypeId} {k n:Nat} {xs:List Value} (h:w.ownsRow B e k (F (some ⟨g,0,none⟩) n cap) n xs) (j:Nat) (u:Value) (hj:j < n * k):(w.setCell ⟨g,j,none⟩ u).ownsRow B e k (F (some ⟨g,0,none⟩) n cap) n (xs.set j u):=by
 obtain ⟨hl,h0 | ⟨g',cap',cur,hv,hg,hh,h1,h2,h3,h4⟩⟩:=h
 ·cases h0.1
 ·injection hv with e1 e2 e3
  injection e1 with e1; injection e1 with e1; subst e1; subst e3
  have hL:=(ai.of hh).set j u
  exact ⟨by rw [List.length_set]; exact hl,.inr ⟨g,cap,(cur.toList.set j u).toArray,rfl,hg,hL,h1,h2,by simp [h3],by show List.take _ (cur.toList.set j u)=_; rw [List.take_set,h4]⟩⟩
theorem aB {w:World} {B:Nat} {e:TypeId} {k:Nat} {A:Option Addr} {n c:Nat} {xs:List Value} (h:w.ownsRow B e k (F A n c) n xs):br w w.heap.size k A n xs:=by
 obtain ⟨hl,h0 | ⟨g,cap,cur,hv,hg,hh,h1,h2,h3,h4⟩⟩:=h
 ·exact ⟨hl,by omega,fun hn=>by omega⟩
 ·injection hv with e1 _ _
  refine ⟨hl,by unfold maxLen at h2; omega,fun hn=>⟨g,0,e1,(ai.of hh).lt,fun j u hu=>?_⟩⟩
  rw [Nat.zero_add,(ai.of hh).cell]
  rw [← h4,List.getElem?_take] at hu
  split at hu
  ·exact hu
  ·cases hu
theorem aj {w w' : World} {B:Nat} {e t:TypeId} {k:Nat} {v:Value} {n:Nat} {xs cs:List Value} (h:w.ownsRow B e k v n xs) {g:Nat} (hL:ai w g t cs) (hne:e ≠ t) (hg:w.grownBy w' (some g)):w'.ownsRow B e k v n xs :=
 h.kept hg (.inr fun e'=>dq h hL hne e'.symm)
structure aA (w:World) (B g:Nat) (vt vo:Value) (y:Oc):Prop where
 lies:ai w g 40 [vt,vo,O U y.got,O U y.sold,O U y.missed]
 hg:B≤g
 t:w.ownsRow B 104 2 vt y.t.length (y.t.flatMap aq.enc)
 o:w.ownsRow B 147 3 vo y.o.length (y.o.flatMap ae.enc)
theorem ez:104 ≠ 40:=by decide
theorem dY:147 ≠ 40:=by decide
theorem qg:147 ≠ 104:=by decide
set_option maxRecDepth 100000 in
set_option maxHeartbeats 4000000 in
theorem lQ (x:aM) (g:Nat) (w:World) (h:bT w w.heap.size g x) (tl:x.t.length≤1000000) (ol:x.o.length≤1000000) :
  Calls Tryz.prog 93 #[.pointer (some ⟨g,0,none⟩)] w fun e w'=>∃ TA tc OA oc,e=.returned (aM.val (x.c.at TA tc OA oc))∧w'.ownsRow w.heap.size 104 2 (F TA x.t.length tc) x.t.length (x.t.flatMap aq.enc)∧w'.ownsRow w.heap.size 147 3 (F OA x.o.length oc) x.o.length (x.o.flatMap ae.enc)∧Below w.heap.size w w':=by
 have b1:=(Below.refl w.heap.size w).alloc (Nat.le_refl _) (.cells #[F none 0 0,F none 0 0,O U 0,O U 0,O U 0] 40)
 have L1:=ai.new w 40 #[F none 0 0,F none 0 0,O U 0,O U 0,O U 0]
 have hA:=h.then b1 b1.size
 go_enter Tryz.func93,Tryz.ntmps93
 go_wp2
 generalize w.alloc (.cells #[F none 0 0,F none 0 0,O U 0,O U 0,O U 0] 40)=W at b1 L1 hA ⊢
 have cT:∀ W',Below W.heap.size W W'→Calls Tryz.prog 147 #[F x.TA x.t.length x.tc] W' (fun e w'=>∃ A c,e=.returned (F A x.t.length c)∧w'.ownsRow w.heap.size 104 2 (F A x.t.length c) x.t.length (x.t.flatMap aq.enc)∧Below W'.heap.size W' w'∧Below W.heap.size W w'):=fun W' hb =>
  (mu x.TA x.tc x.t W' (hA.r.up hb (Nat.le_refl _)).ts tl).mono fun e w' ⟨A,c,he,ho,hb'⟩=>⟨A,c,he,af ho (Nat.le_trans b1.size hb.size),hb',ar hb hb'⟩
 have cO:∀ W',Below W.heap.size W W'→Calls Tryz.prog 148 #[F x.OA x.o.length x.oc] W' (fun e w'=>∃ A c,e=.returned (F A x.o.length c)∧w'.ownsRow w.heap.size 147 3 (F A x.o.length c) x.o.length (x.o.flatMap ae.enc)∧Below W'.heap.size W' w'∧Below W.heap.size W w'):=fun W' hb =>
  (lk x.OA x.oc x.o W' (hA.r.up hb (Nat.le_refl _)).os ol).mono fun e w' ⟨A,c,he,ho,hb'⟩=>⟨A,c,he,af ho (Nat.le_trans b1.size hb.size),hb',ar hb hb'⟩
 have HK0:∀ W',Below w.heap.size w W'→(Below w.heap.size w W'∧W'.cell? ⟨g,0,none⟩=some (F x.TA x.t.length x.tc)∧W'.cell? ⟨g,1,none⟩=some (F x.OA x.o.length x.oc)∧W'.cell? ⟨g,2,none⟩=some (O U x.got)∧W'.cell? ⟨g,3,none⟩=some (O U x.sold)∧W'.cell? ⟨g,4,none⟩=some (O U x.missed)):=fun W' hb =>
  ⟨hb,h.s.c0 ⟨W',hb⟩,h.s.c1 ⟨W',hb⟩,h.s.c2 ⟨W',hb⟩,h.s.c3 ⟨W',hb⟩,h.s.c4 ⟨W',hb⟩⟩
 have HK:∀ W',Below W.heap.size W W'→(Below w.heap.size w W'∧W'.cell? ⟨g,0,none⟩=some (F x.TA x.t.length x.tc)∧W'.cell? ⟨g,1,none⟩=some (F x.OA x.o.length x.oc)∧W'.cell? ⟨g,2,none⟩=some (O U x.got)∧W'.cell? ⟨g,3,none⟩=some (O U x.sold)∧W'.cell? ⟨g,4,none⟩=some (O U x.missed)):=fun W' hb=>HK0 W' (b1.trans (hb.mono b1.size))
 have HKs:∀ W' (u0 u1 u2 u3 u4:Value),Below W.heap.size W W'→(Below w.heap.size w (((((W'.setCell ⟨w.heap.size,0,none⟩ u0).setCell ⟨w.heap.size,1,none⟩ u1).setCell ⟨w.heap.size,2,none⟩ u2).setCell ⟨w.heap.size,3,none⟩ u3).setCell ⟨w.heap.size,4,none⟩ u4)∧(((((W'.setCell ⟨w.heap.size,0,none⟩ u0).setCell ⟨w.heap.size,1,none⟩ u1).setCell ⟨w.heap.size,2,none⟩ u2).setCell ⟨w.heap.size,3,none⟩ u3).setCell ⟨w.heap.size,4,none⟩ u4).cell? ⟨g,0,none⟩=some (F x.TA x.t.length x.tc)∧(((((W'.setCell ⟨w.heap.size,0,none⟩ u0).setCell ⟨w.heap.size,1,none⟩ u1).setCell ⟨w.heap.size,2,none⟩ u2).setCell ⟨w.heap.size,3,none⟩ u3).setCell ⟨w.heap.size,4,none⟩ u4).cell? ⟨g,1,none⟩=some (F x.OA x.o.length x.oc)∧(((((W'.setCell ⟨w.heap.size,0,none⟩ u0).setCell ⟨w.heap.size,1,none⟩ u1).setCell ⟨w.heap.size,2,none⟩ u2).setCell ⟨w.heap.size,3,none⟩ u3).setCell ⟨w.heap.size,4,none⟩ u4).cell? ⟨g,2,none⟩=some (O U x.got)∧(((((W'.setCell ⟨w.heap.size,0,none⟩ u0).setCell ⟨w.heap.size,1,none⟩ u1).setCell ⟨w.heap.size,2,none⟩ u2).setCell ⟨w.heap.size,3,none⟩ u3).setCell ⟨w.heap.size,4,none⟩ u4).cell? ⟨g,3,none⟩=some (O U x.sold)∧(((((W'.setCell ⟨w.heap.size,0,none⟩ u0).setCell ⟨w.heap.size,1,none⟩ u1).setCell ⟨w.heap.size,2,none⟩ u2).setCell ⟨w.heap.size,3,none⟩ u3).setCell ⟨w.heap.size,4,none⟩ u4).cell? ⟨g,4,none⟩=some (O U x.missed)):=fun W' u0 u1 u2 u3 u4 hb=>HK0 _ ((b1.trans (hb.mono b1.size)).grown (ac (ac (ac (ac (ac (World.grownBy.refl W' (some w.heap.size))))))) (Nat.le_trans b1.size hb.size) (by rintro _ ⟨⟩; exact Nat.le_refl _))
 have HZ:∀ W',Below W.heap.size W W'→(W'.cell? ⟨w.heap.size,0,none⟩=some (F none 0 0)∧W'.cell? ⟨w.heap.size,1,none⟩=some (F none 0 0)∧W'.cell? ⟨w.heap.size,2,none⟩=some (O U 0)∧W'.cell? ⟨w.heap.size,3,none⟩=some (O U 0)∧W'.cell? ⟨w.heap.size,4,none⟩=some (O U 0) ∧
   W'.frozen? ⟨w.heap.size,0,none⟩=false∧W'.frozen? ⟨w.heap.size,1,none⟩=false∧W'.frozen? ⟨w.heap.size,2,none⟩=false∧W'.frozen? ⟨w.heap.size,3,none⟩=false∧W'.frozen? ⟨w.heap.size,4,none⟩=false):=fun W' hb =>
  have L:=L1.below hb L1.lt
  ⟨L.cell 0,L.cell 1,L.cell 2,L.cell 3,L.cell 4,L.frozen 0,L.frozen 1,L.frozen 2,L.frozen 3,L.frozen 4⟩
 have HL1:=Lib.hid L1; clear L1
 have HB1:=Lib.hid b1; clear b1
 clear hA h
 go_region_held3 (fun W'=>(Below w.heap.size w W'∧W'.cell? ⟨g,0,none⟩=some (F x.TA x.t.length x.tc)∧W'.cell? ⟨g,1,none⟩=some (F x.OA x.o.length x.oc)∧W'.cell? ⟨g,2,none⟩=some (O U x.got)∧W'.cell? ⟨g,3,none⟩=some (O U x.sold)∧W'.cell? ⟨g,4,none⟩=some (O U x.missed))) (first | exact HK _ (Below.refl _ _).drew | exact HK _ hb9 | exact HK _ hb8 | exact HKs _ _ _ _ _ _ hb9 | exact HKs _ _ _ _ _ _ hb8) (first | (go_at_call 147; (first | (refine (cT _ (Below.refl _ _).drew).mono ?_) | (refine (cT _ hb9).mono ?_)); rintro e w8 ⟨A8,c8,rfl,ho8,hk8,hb8⟩; obtain ⟨z0,z1,z2,z3,z4,f0,f1,f2,f3,f4⟩:=HZ _ hb8) | (go_at_call 148; (first | (refine (cO _ (Below.refl _ _).drew).mono ?_) | (refine (cO _ hb8).mono ?_)); rintro e w9 ⟨A9,c9,rfl,ho9,hk9,hb9⟩; obtain ⟨y0,y1,y2,y3,y4,g0,g1,g2,g3,g4⟩:=HZ _ hb9))
 have hL9:ai w9 w.heap.size 40 [F none 0 0,F none 0 0,O U 0,O U 0,O U 0]:=HL1.out.below hb9 HL1.out.lt
 have e0:=(((((hL9.set 0 (F A8 x.t.length c8)).set 1 (F A9 x.o.length c9)).set 2 (O U x.got)).set 3 (O U x.sold)).set 4 (O U x.missed))
 have hgr:=ac (g:=w.heap.size) (i:=4) (u:=O U x.missed) (ac (g:=w.heap.size) (i:=3) (u:=O U x.sold) (ac (g:=w.heap.size) (i:=2) (u:=O U x.got) (ac (g:=w.heap.size) (i:=1) (u:=F A9 x.o.length c9) (ac (g:=w.heap.size) (i:=0) (u:=F A8 x.t.length c8) (World.grownBy.refl w9 (some w.heap.size))))))
 have r8:=aj (ab ho8 hk9) hL9 ez hgr
 have r9:=aj ho9 hL9 dY hgr
 have b9:Below w.heap.size w w9:=HB1.out.trans (hb9.mono HB1.out.size)
 have b10:=b9.grown hgr b9.size (by rintro _ ⟨⟩; exact Nat.le_refl _)
 generalize (((((w9.setCell ⟨w.heap.size,0,none⟩ (F A8 x.t.length c8)).setCell ⟨w.heap.size,1,none⟩ (F A9 x.o.length c9)).setCell ⟨w.heap.size,2,none⟩ (O U x.got)).setCell ⟨w.heap.size,3,none⟩ (O U x.sold)).setCell ⟨w.heap.size,4,none⟩ (O U x.missed))=W10 at e0 hgr r8 r9 b10 ⊢
 simp only [List.set_cons_zero,List.set_cons_succ] at e0
 obtain ⟨k0,k1,k2,k3,k4⟩:=cells5 e0
 have R8:=Lib.hid r8; clear r8
 have R9:=Lib.hid r9; clear r9
 clear z0 z1 z2 z3 z4 f0 f1 f2 f3 f4 y0 y1 y2 y3 y4 g0 g1 g2 g3 g4 ho8 ho9 hgr
 go_wp2
 refine bodyPost_ret (v:=aM.val (x.c.at A8 c8 A9 c9)) (by simp [results,Tryz.results93,go_sem,Oc.at,aM.c, *]) rfl ⟨A8,c8,A9,c9,rfl,R8.out,R9.out,b10⟩
theorem aA.then {w w' : World} {B g:Nat} {vt vo:Value} {y:Oc} (h:aA w B g vt vo y) (hb:Below w.heap.size w w'):aA w' B g vt vo y :=
 ⟨h.lies.below hb h.lies.lt,h.hg,ab h.t hb,ab h.o hb⟩
theorem gQ {α:Type} (enc:α→List Value) (k:Nat) (hk:∀ x,(enc x).length=k):∀ (l:List α) (i:Nat),(l.take i).flatMap enc=(l.flatMap enc).take (i * k)
 | [],i=>by simp
 | x :: l,0=>by simp
 | x :: l,i+1=>by
  have e:(i+1) * k=(enc x).length+i * k:=by rw [hk,Nat.succ_mul]; omega
  rw [List.take_succ_cons,List.flatMap_cons,List.flatMap_cons,gQ enc k hk l i,e,List.take_length_add_append]
theorem gR {α:Type} (enc:α→List Value) (k:Nat) (hk:∀ x,(enc x).length=k):∀ (l:List α) (i:Nat),(l.drop i).flatMap enc=(l.flatMap enc).drop (i * k)
 | [],i=>by simp
 | x :: l,0=>by simp
 | x :: l,i+1=>by
  have e:(i+1) * k=(enc x).length+i * k:=by rw [hk,Nat.succ_mul]; omega
  rw [List.drop_succ_cons,List.flatMap_cons,gR enc k hk l i,e,List.drop_length_add_append]
theorem nZ {α:Type} (enc:α→List Value) (k:Nat) (hk:∀ x,(enc x).length=k) (l:List α) (i:Nat) (r:α):(l.take i++r :: l.drop i).flatMap enc=(l.flatMap enc).take (i * k)++enc r++(l.flatMap enc).drop (i * k):=by
 rw [List.flatMap_append,List.flatMap_cons,gQ enc k hk,gR enc k hk,List.append_assoc]
theorem rF {α:Type} (enc:α→List Value) (k:Nat) (hk:∀ x,(enc x).length=k) (l:List α) (i:Nat):(l.take i++l.drop (i+1)).flatMap enc=(l.flatMap enc).take (i * k)++(l.flatMap enc).drop (i * k+k):=by
 rw [List.flatMap_append,gQ enc k hk,gR enc k hk,Nat.succ_mul]
theorem qF {i:Nat} {c:Int} : ∀ {l:List ae} (h:i < l.length),(l.flatMap ae.enc).set (i * 3+2) (O U c)=(l.set i ⟨l[i].k,l[i].p,c⟩).flatMap ae.enc:=by
 induction i with
 | zero=>intro l h; match l,h with
  | x :: l,_=>simp [ae.enc]
 | succ i ih=>intro l h; match l,h with
  | x :: l,h =>
   simp only [List.flatMap_cons,List.getElem_cons_succ,List.set_cons_succ]
   rw [← ih (by simpa using h),List.set_append_right _ _ (by rw [ae.enc_len]; omega),ae.enc_len]
   congr 2; omega
theorem qG {i:Nat} {c:Int} : ∀ {l:List aq} (h:i < l.length),(l.flatMap aq.enc).set (i * 2+1) (O U c)=(l.set i ⟨l[i].k,c⟩).flatMap aq.enc:=by
 induction i with
 | zero=>intro l h; match l,h with
  | x :: l,_=>simp [aq.enc]
 | succ i ih=>intro l h; match l,h with
  | x :: l,h =>
   simp only [List.flatMap_cons,List.getElem_cons_succ,List.set_cons_succ]
   rw [← ih (by simpa using h),List.set_append_right _ _ (by rw [aq.enc_len]; omega),aq.enc_len]
   congr 2; omega
def cE (os:List ae) (k p:Int):Nat:=(os.takeWhile fun o=>before o ⟨k,p,0⟩).length
theorem fP (o:ae) (os:List ae) (k p:Int):cE (o :: os) k p=if before o ⟨k,p,0⟩=true then cE os k p+1 else 0:=by
 unfold cE; rw [List.takeWhile_cons]; by_cases h:before o ⟨k,p,0⟩=true <;> simp [h]
theorem qh (os:List ae) (k p:Int):cE os k p≤os.length:=by
 unfold cE; exact (List.takeWhile_prefix _).length_le
theorem nj:∀ (os:List ae) (k p:Int) (i:Nat) (h:i < os.length),i < cE os k p→before os[i] ⟨k,p,0⟩=true
 | o :: os,k,p,i,h,hi=>by
  rw [fP] at hi
  split at hi
  ·cases i with
   | zero=>assumption
   | succ i=>exact nj os k p i (by simpa using h) (by omega)
  ·omega
theorem nk:∀ (os:List ae) (k p:Int),mq os→∀ (i:Nat) (h:i < os.length),cE os k p≤i→¬ before os[i] ⟨k,p,0⟩=true
 | o :: os,k,p,ha,i,h,hi=>by
  obtain ⟨h1,h2⟩:=List.pairwise_cons.1 ha
  by_cases hb:before o ⟨k,p,0⟩=true
  ·rw [fP,if_pos hb] at hi
   cases i with
   | zero=>omega
   | succ i=>exact nk os k p h2 i (by simpa using h) (by omega)
  ·cases i with
   | zero=>exact hb
   | succ i =>
    have:=h1 (os[i]'(by simpa using h)) (List.getElem_mem _)
    simp only [List.getElem_cons_succ]
    rw [cU] at this hb ⊢; simp only at hb ⊢; omega
theorem n6 {k p b:Int} : ∀ (os:List ae),(∀ h:cE os k p < os.length,ei k p os[cE os k p]=false)→dM k p b os=os.take (cE os k p)++⟨k,p,b⟩ :: os.drop (cE os k p)
 | [],_=>by simp [dM,cE]
 | o :: os,h=>by
  by_cases hb:before o ⟨k,p,0⟩=true
  ·have e:cE (o :: os) k p=cE os k p+1:=by rw [fP,if_pos hb]
   simp only [e] at h ⊢
   rw [dM,if_pos hb,n6 os (fun h'=>by have:=h (by simpa using h'); simpa using this),List.take_succ_cons,List.drop_succ_cons,List.cons_append]
  ·have e:cE (o :: os) k p=0:=by rw [fP,if_neg hb]
   simp only [e] at h ⊢
   have:=h (by simp)
   simp only [List.getElem_cons_zero] at this
   rw [dM,if_neg hb,this,if_neg (by simp)]; rfl
theorem n7 {k p b:Int} : ∀ (os:List ae) (h:cE os k p < os.length),ei k p os[cE os k p]=true →
  dM k p b os=if os[cE os k p].c+b=0 then os.take (cE os k p)++os.drop (cE os k p+1) else os.set (cE os k p) ⟨os[cE os k p].k,os[cE os k p].p,os[cE os k p].c+b⟩
 | o :: os,h,hi=>by
  by_cases hb:before o ⟨k,p,0⟩=true
  ·have e:cE (o :: os) k p=cE os k p+1:=by rw [fP,if_pos hb]
   simp only [e,List.getElem_cons_succ] at h hi ⊢
   rw [dM,if_pos hb,n7 os (by simpa using h) hi,List.take_succ_cons,List.drop_succ_cons,List.cons_append,List.set_cons_succ]
   split <;> rfl
  ·have e:cE (o :: os) k p=0:=by rw [fP,if_neg hb]
   simp only [e,List.getElem_cons_zero] at h hi ⊢
   rw [dM,if_neg hb,if_pos hi]
   split <;> simp
theorem lw {a b:ae} : il a b < 0 ↔ before a b=true:=by
 have h:=kM a b
 by_cases h0:0≤il a b
 ·rw [decide_eq_true h0] at h
  have:before a b=false:=by cases hb:before a b; rfl; rw [hb] at h; cases h
  rw [this]; constructor
  ·intro h; omega
  ·intro h; cases h
 ·rw [decide_eq_false h0] at h
  have:before a b=true:=by cases hb:before a b; rw [hb] at h; cases h; rfl
  rw [this]; constructor
  ·intro _; rfl
  ·intro _; omega
theorem mM {a:ae} {k p b:Int} : decide (il a ⟨k,p,b⟩=0)=ei k p a:=by
 rw [Bool.eq_iff_iff,decide_eq_true_eq,dn]
 unfold il se gq
 dsimp only
 constructor
 ·intro h
  repeat' split at h
  all_goals first | omega | (constructor <;> omega)
 ·rintro ⟨rfl,rfl⟩
  simp
theorem aA.ne_to {w:World} {B g:Nat} {vt vo:Value} {y:Oc} (h:aA w B g vt vo y):vo.ownBlock ≠ some g:=fun e=>dq h.o h.lies dY e.symm
theorem aA.ne_t {w:World} {B g:Nat} {vt vo:Value} {y:Oc} (h:aA w B g vt vo y):vt.ownBlock ≠ some g:=fun e=>dq h.t h.lies ez e.symm
theorem aA.setO {w w' : World} {B g:Nat} {vt vo vo' : Value} {y:Oc} {os:List ae} (h:aA w B g vt vo y) (hg:w.grownBy w' vo.ownBlock) (ho:w'.ownsRow B 147 3 vo' os.length (os.flatMap ae.enc)) :
  aA (w'.setCell ⟨g,1,none⟩ vo') B g vt vo' { y with o:=os }:=by
 have hL:ai w' g 40 _:=h.lies.kept hg (fun e=>h.ne_to e.symm)
 have ht:=dX h.t h.o qg hg
 exact ⟨hL.set 1 vo',h.hg,al ht hL ez 1 vo',al ho hL dY 1 vo'⟩
theorem mN (t u:ae) (w:World):Calls Tryz.prog 118 (#[t.val,u.val]++#[]) w fun e w'=>e=.returned (O U (il t u))∧Below w.heap.size w w':=fX t u w
set_option maxRecDepth 100000 in
set_option maxHeartbeats 4000000 in
theorem po (B g:Nat) (vt vo:Value) (y:Oc) (k p b:Int) (w:World) (h:aA w B g vt vo y) (hB:B≤w.heap.size) (ha:mq y.o) (hn:y.o.length≤100000) (hnew:∀ h:cE y.o k p < y.o.length,ei k p y.o[cE y.o k p]=false) :
  Calls Tryz.prog 216 #[.pointer (some ⟨g,0,none⟩),O U k,O U p,O U b] w fun e w'=>∃ vo',e=.returned (.tuple #[])∧aA w' B g vt vo' { y with o:=dM k p b y.o }∧Below B w w':=by
 have b1:=(Below.refl w.heap.size w).alloc (Nat.le_refl _) (.cells #[O U k,O U p,O U b] 147)
 have L1:=ai.new w 147 #[O U k,O U p,O U b]
 have h1:=h.then b1
 have HC:=Lib.hid (n6 y.o hnew (b:=b))
 have hlo:∀ i (h:i < y.o.length),i < cE y.o k p→il y.o[i] ⟨k,p,b⟩ < 0:=fun i h hi=>lw.2 (nj y.o k p i h hi)
 have hhi:∀ i (h:i < y.o.length),cE y.o k p≤i→¬ il y.o[i] ⟨k,p,b⟩ < 0:=fun i h hi hc=>nk y.o k p ha i h hi (lw.1 hc)
 have hfd:∀ h:cE y.o k p < y.o.length,false=decide (il y.o[cE y.o k p] ⟨k,p,b⟩=0):=fun h=>by rw [mM,hnew h]
 have hple:=qh y.o k p
 obtain ⟨A0,c0,rfl⟩:=aw h.o
 have cB:∀ W,Below (w.alloc (.cells #[O U k,O U p,O U b] 147)).heap.size (w.alloc (.cells #[O U k,O U p,O U b] 147)) W→Calls Tryz.prog 235 #[F A0 y.o.length c0,.agg #[O U k,O U p,O U b],.func (.func 118) #[] #[]] W fun e w'=>e=.returned (.tuple #[O U (cE y.o k p),.bool false])∧Below W.heap.size W w':=fun W hb =>
  jL (fun o=>il o ⟨k,p,b⟩) ⟨k,p,b⟩ 118 #[] Tryz.call118 A0 c0 y.o W (fun t p=>mN t _ p.val) (aB (h1.then hb).o) (by omega) (cE y.o k p) hple hlo hhi false hfd (fun _=>rfl)
 generalize cE y.o k p=q at cB HC hple
 clear hlo hhi hfd hnew ha
 go_enter Tryz.func216,Tryz.ntmps216
 go_wp2
 generalize w.alloc (.cells #[O U k,O U p,O U b] 147)=W at b1 L1 h1 cB ⊢
 have hc1:∀ r:ao W.heap.size W,r.val.cell? ⟨g,1,none⟩=some (F A0 y.o.length c0):=fun r=>(r.cell h1.lies.lt).trans (h1.lies.cell 1)
 have hd0:∀ r:ao W.heap.size W,r.val.cell? ⟨w.heap.size,0,none⟩=some (O U k):=fun r=>(r.cell L1.lt).trans (L1.cell 0)
 have hd1:∀ r:ao W.heap.size W,r.val.cell? ⟨w.heap.size,1,none⟩=some (O U p):=fun r=>(r.cell L1.lt).trans (L1.cell 1)
 have hd2:∀ r:ao W.heap.size W,r.val.cell? ⟨w.heap.size,2,none⟩=some (O U b):=fun r=>(r.cell L1.lt).trans (L1.cell 2)
 have cB':=fun r:ao W.heap.size W=>cB r.val r.below
 refine au (by kernel_rfl) (by kernel_rfl) ?_
 repeat (any_goals (first | go_big_quiet_step ((go_at_call 235; refine aK (Nat.le_refl _) (cB' _))) | (refine wpQuiet_step (fun K hK=>?_); go_simp; split <;> (refine hK _ ?_; clear hK K))))
 all_goals (refine wpQuiet_nil ?_; rintro _ ⟨q1,rfl⟩)
 all_goals go_wp2
 have h2:=h1.then q1.below
 have b2:Below w.heap.size w q1.val:=b1.trans (q1.below.mono b1.size)
 clear hc1 cB cB' h1 b1
 have c1:q1.val.cell? ⟨g,1,none⟩=some (F A0 y.o.length c0):=h2.lies.cell 1
 have e0:=hd0 q1
 have e1:=hd1 q1
 have e2:=hd2 q1
 clear hd0 hd1 hd2
 have bS:=(Below.refl q1.val.heap.size q1.val).alloc (Nat.le_refl _) (.cells #[O U k,O U p,O U b] 147)
 have hS:aA (q1.val.alloc (.cells #[O U k,O U p,O U b] 147)).drew B g vt (F A0 y.o.length c0) y:=(h2.then bS).then (Below.refl _ _).drew
 have hBq:B≤q1.val.heap.size:=Nat.le_trans hB b2.size
 have cI:=mw B (F A0 y.o.length c0) y.o.length (y.o.flatMap ae.enc) (q1.val.alloc (.cells #[O U k,O U p,O U b] 147)).drew hS.o (by omega) q hple ⟨k,p,b⟩ q1.val.heap.size 1 (ai.new q1.val 147 #[O U k,O U p,O U b]).drew (fun e=>by have:=(h2.o.lt _ e).2; omega) (Nat.le_trans hBq bS.size) ep
 rw [show (y.o.flatMap ae.enc).take (q * 3)++ae.enc ⟨k,p,b⟩++(y.o.flatMap ae.enc).drop (q * 3)=(dM k p b y.o).flatMap ae.enc by rw [HC.out,nZ ae.enc 3 ae.enc_len]] at cI
 have hlen:y.o.length+1=(dM k p b y.o).length:=by rw [HC.out]; simp; omega
 rw [hlen] at cI
 have c1':=hS.lies.cell 1
 simp only [List.getElem?_cons_zero,List.getElem?_cons_succ] at c1'
 have HS:=Lib.hid hS; clear hS
 have HLen:=Lib.hid hlen; clear hlen
 go_region_law (first | (go_simp; go_at_call 236; refine cI.mono ?_; rintro e w9 ⟨v',rfl,HO,hg9⟩; obtain ⟨A9,c9,rfl⟩:=aw HO; have k1:=(HS.out.lies.kept hg9 (fun e=>HS.out.ne_to e.symm)).cell 1; have k2:=(HS.out.lies.kept hg9 (fun e=>HS.out.ne_to e.symm)).frozen 1; simp only [List.getElem?_cons_zero,List.getElem?_cons_succ] at k1))
 all_goals
  go_wp2
  refine bodyPost_ret (results_none rfl _ _ _) rfl ?_
  have hO:=HS.out.setO hg9 HO
  refine ⟨_,rfl,hO, ?_⟩
  have bq:Below B w (q1.val.alloc (.cells #[O U k,O U p,O U b] 147)).drew:=(b2.mono hB).trans ((bS.drew).mono hBq)
  have b9:Below B w w9:=bq.grown hg9 (Nat.le_trans hBq bS.size) (fun j hj=>(HS.out.o.lt _ hj).1)
  exact b9.grown (ac (World.grownBy.refl w9 (some g))) (Nat.le_trans hB b9.size) (by rintro _ ⟨⟩; exact HS.out.hg)
set_option maxRecDepth 100000 in
set_option maxHeartbeats 4000000 in
theorem pq (B g:Nat) (vt vo:Value) (y:Oc) (k p b:Int) (w:World) (h:aA w B g vt vo y) (hB:B≤w.heap.size) (ha:mq y.o) (hn:y.o.length≤100000) (hlt:cE y.o k p < y.o.length) (hold:ei k p y.o[cE y.o k p]=true)
  (hc : -1000000000≤y.o[cE y.o k p].c∧y.o[cE y.o k p].c≤1000000000) (hb : -1000000000≤b∧b≤1000000000) :
  Calls Tryz.prog 216 #[.pointer (some ⟨g,0,none⟩),O U k,O U p,O U b] w fun e w'=>∃ vo',e=.returned (.tuple #[])∧aA w' B g vt vo' { y with o:=dM k p b y.o }∧Below B w w':=by
 have b1:=(Below.refl w.heap.size w).alloc (Nat.le_refl _) (.cells #[O U k,O U p,O U b] 147)
 have L1:=ai.new w 147 #[O U k,O U p,O U b]
 have h1:=h.then b1
 have HC:=Lib.hid (n7 y.o hlt hold (b:=b))
 have hlo:∀ i (h:i < y.o.length),i < cE y.o k p→il y.o[i] ⟨k,p,b⟩ < 0:=fun i h hi=>lw.2 (nj y.o k p i h hi)
 have hhi:∀ i (h:i < y.o.length),cE y.o k p≤i→¬ il y.o[i] ⟨k,p,b⟩ < 0:=fun i h hi hc=>nk y.o k p ha i h hi (lw.1 hc)
 have hfd:∀ h:cE y.o k p < y.o.length,true=decide (il y.o[cE y.o k p] ⟨k,p,b⟩=0):=fun h=>by rw [mM,hold]
 have hple:=qh y.o k p
 obtain ⟨go,cap,rest,rfl,hgo,hLo,hcap⟩:=bJ h.o (by omega)
 have cB:∀ W,Below (w.alloc (.cells #[O U k,O U p,O U b] 147)).heap.size (w.alloc (.cells #[O U k,O U p,O U b] 147)) W→Calls Tryz.prog 235 #[F (some ⟨go,0,none⟩) y.o.length cap,.agg #[O U k,O U p,O U b],.func (.func 118) #[] #[]] W fun e w'=>e=.returned (.tuple #[O U (cE y.o k p),.bool true])∧Below W.heap.size W w':=fun W hb =>
  jL (fun o=>il o ⟨k,p,b⟩) ⟨k,p,b⟩ 118 #[] Tryz.call118 _ cap y.o W (fun t p=>mN t _ p.val) (aB (h1.then hb).o) (by omega) (cE y.o k p) hple hlo hhi true hfd (fun e=>by omega)
 have hne : ¬ go=g:=fun e=>h.ne_to (by rw [← e]; rfl)
 have hne' : ¬ g=go:=fun e=>hne e.symm
 obtain ⟨q,hq⟩ : ∃ q,q=cE y.o k p:=⟨_,rfl⟩
 have hlt' : q < y.o.length:=by rw [hq]; exact hlt
 have hcq:y.o[cE y.o k p]=y.o[q]:=by congr 1; exact hq.symm
 rw [hcq] at hc HC
 rw [← hq] at cB HC hple
 obtain ⟨r,hre⟩ : ∃ r,r=y.o[q]:=⟨_,rfl⟩
 rw [← hre] at hc HC
 clear hcq hold hfd
 have hel:(y.o.flatMap ae.enc)[q * 3+2]?=some (O U r.c):=by rw [ig ae.enc 3 ae.enc_len y.o q hlt' 2 (by omega),← hre]; rfl
 have HSet:=Lib.hid (qF (c:=r.c+b) hlt')
 rw [← hre] at HSet
 have hq3:q * 3+2 < y.o.length * 3:=by omega
 clear hlo hhi ha hre hLo rest hq hlt
 obtain ⟨hc1,hc2⟩:=hc
 obtain ⟨hb1,hb2⟩:=hb
 go_enter Tryz.func216,Tryz.ntmps216
 go_wp2
 generalize w.alloc (.cells #[O U k,O U p,O U b] 147)=W at b1 L1 h1 cB ⊢
 have hc1:∀ r:ao W.heap.size W,r.val.cell? ⟨g,1,none⟩=some (F (some ⟨go,0,none⟩) y.o.length cap):=fun r=>(r.cell h1.lies.lt).trans (h1.lies.cell 1)
 have hd0:∀ r:ao W.heap.size W,r.val.cell? ⟨w.heap.size,0,none⟩=some (O U k):=fun r=>(r.cell L1.lt).trans (L1.cell 0)
 have hd1:∀ r:ao W.heap.size W,r.val.cell? ⟨w.heap.size,1,none⟩=some (O U p):=fun r=>(r.cell L1.lt).trans (L1.cell 1)
 have hd2:∀ r:ao W.heap.size W,r.val.cell? ⟨w.heap.size,2,none⟩=some (O U b):=fun r=>(r.cell L1.lt).trans (L1.cell 2)
 have cB':=fun r:ao W.heap.size W=>cB r.val r.below
 refine au (by kernel_rfl) (by kernel_rfl) ?_
 repeat (any_goals (first | go_big_quiet_step ((go_at_call 235; refine aK (Nat.le_refl _) (cB' _))) | (refine wpQuiet_step (fun K hK=>?_); go_simp; split <;> (refine hK _ ?_; clear hK K))))
 all_goals (refine wpQuiet_nil ?_; rintro _ ⟨q1,rfl⟩)
 have h2:=h1.then q1.below
 have b2:Below w.heap.size w q1.val:=b1.trans (q1.below.mono b1.size)
 have hBq:B≤q1.val.heap.size:=Nat.le_trans hB b2.size
 clear hc1 cB cB' h1 b1 hd0 hd1 hd2
 have c1:q1.val.cell? ⟨g,1,none⟩=some (F (some ⟨go,0,none⟩) y.o.length cap):=h2.lies.cell 1
 have c1f:q1.val.frozen? ⟨g,1,none⟩=false:=h2.lies.frozen 1
 have c2:q1.val.cell? ⟨go,q * 3+2,none⟩=some (O U r.c):=(h2.o.cellAt _ hq3).trans hel
 have c2f:q1.val.frozen? ⟨go,q * 3+2,none⟩=false:=h2.o.frozenAt _
 have hO3:=kP h2.o (q * 3+2) (O U (r.c+b)) hq3
 rw [HSet.out] at hO3
 have hL3:=h2.lies.other (p:=⟨go,q * 3+2,none⟩) hne' (O U (r.c+b))
 have hT3:=dX (w':=q1.val.setCell ⟨go,q * 3+2,none⟩ (O U (r.c+b))) h2.t h2.o qg (ac (World.grownBy.refl q1.val (some go)))
 have b3:Below B w (q1.val.setCell ⟨go,q * 3+2,none⟩ (O U (r.c+b))):=(b2.mono hB).grown (ac (World.grownBy.refl q1.val (some go))) hBq (by rintro _ ⟨⟩; exact hgo)
 have s3:q1.val.heap.size≤(q1.val.setCell ⟨go,q * 3+2,none⟩ (O U (r.c+b))).heap.size:=by simp [World.setCell]
 by_cases hz:r.c+b=0
 ·have HZ:=Lib.hid hz
  have hz' : (r.c+b == 0)=true:=by simp [hz]
  clear hz
  rw [if_pos HZ.out] at HC
  have hOwn:aA (q1.val.setCell ⟨go,q * 3+2,none⟩ (O U (r.c+b))) B g vt (F (some ⟨go,0,none⟩) y.o.length cap) { y with o:=y.o.set q ⟨r.k,r.p,r.c+b⟩ }:=⟨hL3,h.hg,hT3,by simpa using hO3⟩
  have cD:=mx B (F (some ⟨go,0,none⟩) y.o.length cap) y.o.length ((y.o.set q ⟨r.k,r.p,r.c+b⟩).flatMap ae.enc) (q1.val.setCell ⟨go,q * 3+2,none⟩ (O U (r.c+b))) hO3 (by omega) q hlt' ep
  rw [← rF ae.enc 3 ae.enc_len,List.take_set_of_le (Nat.le_refl _),List.drop_set_of_lt (Nat.lt_succ_self _),← HC.out] at cD
  have hlen:y.o.length - 1=(dM k p b y.o).length:=by rw [HC.out]; simp; omega
  rw [hlen] at cD
  have HLen:=Lib.hid hlen; clear hlen
  have HOwn:=Lib.hid hOwn; clear hOwn
  go_wp2_with fail
  refine cD.mono ?_
  rintro e w9 ⟨v',rfl,HO,hg9,_⟩
  obtain ⟨A9,c9,rfl⟩:=aw HO
  have hL9:=HOwn.out.lies.kept hg9 (fun e=>HOwn.out.ne_to e.symm)
  have k1:=hL9.cell 1
  have k2:=hL9.frozen 1
  simp only [List.getElem?_cons_zero,List.getElem?_cons_succ] at k1
  have hO:=HOwn.out.setO hg9 HO
  have b9:Below B w w9:=b3.grown hg9 (Nat.le_trans hB b3.size) (fun j hj=>(HOwn.out.o.lt _ hj).1)
  have b10:=b9.grown (ac (g:=g) (i:=1) (u:=F A9 (dM k p b y.o).length c9) (World.grownBy.refl w9 (some g))) (Nat.le_trans hB b9.size) (by rintro _ ⟨⟩; exact h.hg)
  go_wp2
  go_end0
  exact ⟨_,rfl,hO,b10⟩
 ·have HZ:=Lib.hid hz
  have hz' : (r.c+b == 0)=false:=by simp [hz]
  clear hz
  rw [if_neg HZ.out] at HC
  go_wp2
  go_end0
  exact ⟨_,rfl,⟨hL3,h.hg,hT3,by rw [HC.out]; simpa using hO3⟩,b3⟩
theorem fk (B g:Nat) (vt vo:Value) (y:Oc) (k p b:Int) (w:World) (h:aA w B g vt vo y) (hB:B≤w.heap.size) (ha:mq y.o) (hn:y.o.length≤100000) (hc:∀ o ∈ y.o, -1000000000≤o.c∧o.c≤1000000000) (hb : -1000000000≤b∧b≤1000000000) :
  Calls Tryz.prog 216 #[.pointer (some ⟨g,0,none⟩),O U k,O U p,O U b] w fun e w'=>∃ vo',e=.returned (.tuple #[])∧aA w' B g vt vo' { y with o:=dM k p b y.o }∧Below B w w':=by
 by_cases h0:∃ h:cE y.o k p < y.o.length,ei k p y.o[cE y.o k p]=true
 ·obtain ⟨hlt,hi⟩:=h0
  exact pq B g vt vo y k p b w h hB ha hn hlt hi (hc _ (List.getElem_mem _)) hb
 ·exact po B g vt vo y k p b w h hB ha hn (fun h'=>by
   cases hi:ei k p y.o[cE y.o k p]
   ·rfl
   ·exact absurd ⟨h',hi⟩ h0)
def Oc.fin (r:Oc):Option Oc:=if r.good then some r else none
def aZ (y:Oc) (s:dH):Option Oc :=
 if s.kind=1 then Oc.fin { y with t:=ah y.t s.stamp s.value,got:=y.got+s.value }
 else if ¬ 0≤av y.t s.stamp then none
 else if s.kind=2 then Oc.fin { y with t:=ah y.t s.stamp (-s.value),o:=dM s.stamp s.person s.value y.o }
 else if aJ s.stamp s.person y.o=0∧0 < s.person then none
 else if s.kind=3 then Oc.fin { y with t:=ah y.t s.stamp s.value,o:=dM s.stamp s.person (-s.value) y.o }
 else if s.kind=4 then (if s.person=0 then Oc.fin { y with t:=ah y.t s.stamp (-s.value),sold:=y.sold+s.value } else Oc.fin { y with o:=dM s.stamp s.person (-s.value) y.o,sold:=y.sold+s.value })
 else if s.kind=5 then Oc.fin { y with o:=dM s.stamp s.person (-aJ s.stamp s.person y.o) y.o,missed:=y.missed+aJ s.stamp s.person y.o }
 else Oc.fin { y with o:=dM s.stamp s.value (aJ s.stamp s.person y.o) (dM s.stamp s.person (-aJ s.stamp s.person y.o) y.o) }
def Oc.zero:Oc:=⟨[],[],0,0,0⟩
def cj (R:Option Oc):Oc:=R.getD Oc.zero
def aC (w:World) (R:Option Oc) (e:Ending) (w' : World):Prop :=
 ∃ TA tc OA oc,e=.returned (.tuple #[aM.val ((cj R).at TA tc OA oc),.bool R.isSome])∧w'.ownsRow w.heap.size 104 2 (F TA (cj R).t.length tc) (cj R).t.length ((cj R).t.flatMap aq.enc) ∧
  w'.ownsRow w.heap.size 147 3 (F OA (cj R).o.length oc) (cj R).o.length ((cj R).o.flatMap ae.enc)∧Below w.heap.size w w'
theorem aC.no {w w' : World} {e:Ending} (he:e=.returned (.tuple #[.agg #[F none 0 0,F none 0 0,O U 0,O U 0,O U 0],.bool false])) (hb:Below w.heap.size w w'):aC w none e w' :=
 ⟨none,0,none,0,he,World.ownsRow_nil _ _ _ _,World.ownsRow_nil _ _ _ _,hb⟩
theorem aC.yes {w w' : World} {e:Ending} {r:Oc} {A1 A2:Option Addr} {a1 a2:Nat} (he:e=.returned (.tuple #[.agg #[F A1 r.t.length a1,F A2 r.o.length a2,O U r.got,O U r.sold,O U r.missed],.bool true]))
  (h8:w'.ownsRow w.heap.size 104 2 (F A1 r.t.length a1) r.t.length (r.t.flatMap aq.enc)) (h9:w'.ownsRow w.heap.size 147 3 (F A2 r.o.length a2) r.o.length (r.o.flatMap ae.enc)) (hb:Below w.heap.size w w'):aC w (some r) e w' :=
 ⟨A1,a1,A2,a2,he,h8,h9,hb⟩
theorem aA.at_ {w:World} {B g:Nat} {A1 A2:Option Addr} {c1 c2:Nat} {y:Oc} (h:aA w B g (F A1 y.t.length c1) (F A2 y.o.length c2) y):bT w w.heap.size g (y.at A1 c1 A2 c2) :=
 bT.of (x:=y.at A1 c1 A2 c2) h.lies ⟨aB h.t,aB h.o⟩
theorem aA.form {w:World} {B g:Nat} {vt vo:Value} {y:Oc} (h:aA w B g vt vo y):∃ A1 c1 A2 c2,vt=F A1 y.t.length c1∧vo=F A2 y.o.length c2:=by
 obtain ⟨A1,c1,h1⟩:=aw h.t
 obtain ⟨A2,c2,h2⟩:=aw h.o
 exact ⟨A1,c1,A2,c2,h1,h2⟩
theorem rG (t:ae) (gs:Nat) (kd st pe va:Int) (w:World) (hL:ai w gs 112 [O U kd,O U st,O U pe,O U va]) :
  Calls Tryz.prog 215 (#[t.val]++#[.pointer (some ⟨gs,0,none⟩)]) w fun e w'=>e=.returned (.bool (ei st pe t))∧Below w.heap.size w w':=by
 show Calls Tryz.prog 215 #[t.val,.pointer (some ⟨gs,0,none⟩)] w _
 have b1:=(Below.refl w.heap.size w).alloc (Nat.le_refl _) (.cells #[O U t.k,O U t.p,O U t.c] 147)
 have c1:∀ r:ao w.heap.size w,r.val.cell? ⟨gs,1,none⟩=some (O U st):=fun r=>(r.cell hL.lt).trans (hL.cell 1)
 have c2:∀ r:ao w.heap.size w,r.val.cell? ⟨gs,2,none⟩=some (O U pe):=fun r=>(r.cell hL.lt).trans (hL.cell 2)
 have HI:Hid (ei st pe t=(decide (t.k=st) && decide (t.p=pe))):=rfl
 have hL0:=ai.new w 147 #[O U t.k,O U t.p,O U t.c]
 obtain ⟨q,hq⟩ : ∃ q:ao w.heap.size w,w.alloc (.cells #[O U t.k,O U t.p,O U t.c] 147)=q.val:=⟨⟨_,b1⟩,rfl⟩
 rw [hq] at hL0
 have d0:=hL0.cell 0
 have d1:=hL0.cell 1
 simp only [List.getElem?_cons_zero,List.getElem?_cons_succ] at d0 d1
 have hq0:=q.below.size
 by_cases h1:t.k=st
 ·have v1:(t.k == st)=true:=by simp [h1]
  have H1:=Lib.hid h1; clear h1
  by_cases h2:t.p=pe
  ·have v2:(t.p == pe)=true:=by simp [h2]
   have H2:=Lib.hid h2; clear h2
   go_enter Tryz.func215,Tryz.ntmps215
   go_wp2_with (rw [hq])
   all_goals go_ret
   all_goals exact ⟨by rw [HI.out,decide_eq_true H1.out,decide_eq_true H2.out]; rfl,q.below⟩
  ·have v2:(t.p == pe)=false:=by simp [h2]
   have H2:=Lib.hid h2; clear h2
   go_enter Tryz.func215,Tryz.ntmps215
   go_wp2_with (rw [hq])
   all_goals go_ret
   all_goals exact ⟨by rw [HI.out,decide_eq_true H1.out,decide_eq_false H2.out]; rfl,q.below⟩
 ·have v1:(t.k == st)=false:=by simp [h1]
  have H1:=Lib.hid h1; clear h1
  go_enter Tryz.func215,Tryz.ntmps215
  go_wp2_with (rw [hq])
  all_goals go_ret
  all_goals exact ⟨by rw [HI.out,decide_eq_false H1.out]; rfl,q.below⟩
theorem pr (t:aq) (kd:Int) (w:World):Calls Tryz.prog 213 (#[t.val,O U kd]++#[]) w fun e w'=>e=.returned (O U (gq t.k kd))∧Below w.heap.size w w':=by
 show Calls Tryz.prog 213 #[t.val,O U kd] w _
 have b1:=(Below.refl w.heap.size w).alloc (Nat.le_refl _) (.cells #[O U t.k,O U t.c] 104)
 have hc:=fun W=>iI t.k kd W
 go_enter Tryz.func213,Tryz.ntmps213
 go_wp2_with fail
 refine (hc _).mono ?_
 rintro e w' ⟨rfl,rfl⟩
 go_wp2
 go_ret
 exact ⟨rfl,b1⟩
theorem f8 {ts:List aq} {kd n:Int} {i:Nat} (h:av ts kd=i) (hi:i < ts.length):ah ts kd n=ts.set i ⟨ts[i].k,ts[i].c+n⟩:=by
 unfold ah
 rw [h,if_pos (by omega),Int.toNat_natCast,List.getD_eq_getElem?_getD,List.getElem?_eq_getElem hi]; rfl
theorem aA.setT {w:World} {B g gT cT i:Nat} {vo:Value} {y:Oc} (h:aA w B g (F (some ⟨gT,0,none⟩) y.t.length cT) vo y) (hi:i < y.t.length) (c:Int) :
  aA (w.setCell ⟨gT,i * 2+1,none⟩ (O U c)) B g (F (some ⟨gT,0,none⟩) y.t.length cT) vo { y with t:=y.t.set i ⟨y.t[i].k,c⟩ }∧Below B w (w.setCell ⟨gT,i * 2+1,none⟩ (O U c))∧w.cell? ⟨gT,i * 2+1,none⟩=some (O U y.t[i].c)∧w.frozen? ⟨gT,i * 2+1,none⟩=false:=by
 have hj:i * 2+1 < y.t.length * 2:=by omega
 have hB:B≤gT:=(h.t.lt gT rfl).1
 have hlt:gT < w.heap.size:=(h.t.lt gT rfl).2
 have hg:gT ≠ g:=fun e=>h.ne_t (by rw [← e]; rfl)
 have ht:=kP h.t (i * 2+1) (O U c) hj
 rw [qG hi] at ht
 have hgr:w.grownBy (w.setCell ⟨gT,i * 2+1,none⟩ (O U c)) (some gT):=ac (World.grownBy.refl w (some gT))
 refine ⟨⟨h.lies.other (p:=⟨gT,i * 2+1,none⟩) (fun e=>hg e.symm) _,h.hg,by simpa using ht,dX (v':=F (some ⟨gT,0,none⟩) y.t.length cT) h.o h.t (Ne.symm qg) hgr⟩, ?_, ?_,h.t.frozenAt _⟩
 ·exact (Below.refl B w).grown hgr (Nat.le_of_lt (Nat.lt_of_le_of_lt hB hlt)) (by rintro _ ⟨⟩; exact hB)
 ·rw [h.t.cellAt _ hj,ig aq.enc 2 aq.enc_len y.t i hi 1 (by omega)]; rfl
theorem aA.setT' {w:World} {B g gT cT i:Nat} {vo:Value} {y:Oc} (h:aA w B g (F (some ⟨gT,0,none⟩) y.t.length cT) vo y) (hi:i < y.t.length) (tr:aq) (htr:y.t[i]=tr) (c:Int) :
  aA (w.setCell ⟨gT,i * 2+1,none⟩ (O U c)) B g (F (some ⟨gT,0,none⟩) y.t.length cT) vo { y with t:=y.t.set i ⟨tr.k,c⟩ }∧Below B w (w.setCell ⟨gT,i * 2+1,none⟩ (O U c))∧w.cell? ⟨gT,i * 2+1,none⟩=some (O U tr.c)∧w.frozen? ⟨gT,i * 2+1,none⟩=false:=by
 subst htr; exact h.setT hi c
theorem aA.setN {w:World} {B g:Nat} {vt vo:Value} {y:Oc} (h:aA w B g vt vo y) (c:Int) :
  aA (w.setCell ⟨g,2,none⟩ (O U c)) B g vt vo { y with got:=c }∧aA (w.setCell ⟨g,3,none⟩ (O U c)) B g vt vo { y with sold:=c }∧aA (w.setCell ⟨g,4,none⟩ (O U c)) B g vt vo { y with missed:=c } :=
 ⟨⟨h.lies.set 2 _,h.hg,al h.t h.lies ez 2 _,al h.o h.lies dY 2 _⟩,⟨h.lies.set 3 _,h.hg,al h.t h.lies ez 3 _,al h.o h.lies dY 3 _⟩,⟨h.lies.set 4 _,h.hg,al h.t h.lies ez 4 _,al h.o h.lies dY 4 _⟩⟩
theorem aA.belowN {w:World} {B g:Nat} {vt vo:Value} {y:Oc} (h:aA w B g vt vo y) (i:Nat) (u:Value):Below B w (w.setCell ⟨g,i,none⟩ u) :=
 (Below.refl B w).grown (ac (World.grownBy.refl w (some g))) (Nat.le_of_lt (Nat.lt_of_le_of_lt h.hg h.lies.lt)) (by rintro _ ⟨⟩; exact h.hg)
theorem bn.asc {x:aM} (h:bn x):mq x.o:=(jG x.t x.o none h.os).1
theorem bn.at_ {x:aM} (h:bn x) (st pe:Int):aS (ei st pe) x.o=aJ st pe x.o:=by
 have:=kg (k:=st) (p:=pe) x.o 0 h.asc
 rwa [Int.zero_add] at this
theorem bn.at_bd {x:aM} (h:bn x) (st pe:Int):0≤aJ st pe x.o∧aJ st pe x.o≤9999:=by
 rcases ke (k:=st) (p:=pe) x.o with h0 | ⟨o,ho,_,hc⟩
 ·omega
 ·obtain ⟨j,hj,rfl⟩:=List.getElem_of_mem ho
  have:=(ae.bounds (h.oall j hj)).2.2
  omega
theorem bn.oc {x:aM} (h:bn x):∀ o ∈ x.o, -1000000000≤o.c∧o.c≤1000000000:=fun o ho=>by
 obtain ⟨j,hj,rfl⟩:=List.getElem_of_mem ho
 have:=(ae.bounds (h.oall j hj)).2.2
 omega
theorem cK {B g gs:Nat} {x:aM} {kd st pe va:Int} {w:World} (hL:ai w gs 112 [O U kd,O U st,O U pe,O U va]) (hA:bT w w.heap.size g x) (G:bn x) (_hB:B≤w.heap.size) :
  Calls Tryz.prog 120 #[.pointer (some ⟨g,0,none⟩),.func (.func 215) #[] #[.pointer (some ⟨gs,0,none⟩)]] w fun e w'=>e=.returned (O U (aJ st pe x.o))∧Below w.heap.size w w':=by
 have:=eB (ei st pe) 215 #[.pointer (some ⟨gs,0,none⟩)] Tryz.call215 x g w (fun o p=>rG o gs kd st pe va p.val (hL.below p.below hL.lt)) hA G.ol G.oall
 rwa [G.at_] at this
theorem aA.setTs {w w' : World} {B g:Nat} {vt vt' vo:Value} {y:Oc} {ts:List aq} (h:aA w B g vt vo y) (hg:w.grownBy w' vt.ownBlock) (ht:w'.ownsRow B 104 2 vt' ts.length (ts.flatMap aq.enc)) :
  aA (w'.setCell ⟨g,0,none⟩ vt') B g vt' vo { y with t:=ts }:=by
 have hL:ai w' g 40 _:=h.lies.kept hg (fun e=>h.ne_t e.symm)
 have ho:=dX h.o h.t (Ne.symm qg) hg
 exact ⟨hL.set 0 vt',h.hg,al ht hL ez 0 vt',al ho hL dY 0 vt'⟩
theorem qi {a b:Int} : gq a b < 0 ↔ a < b:=by
 unfold gq; split
 ·simp [*]
 ·split <;> simp [*]
theorem qH {a b:Int} : gq a b=0 ↔ a=b:=by
 unfold gq; split
 ·simp; omega
 ·split
  ·simp; omega
  ·simp; omega
theorem bn.ascT {x:aM} (h:bn x):sM x.t:=(jg x.t 0 0 h.ts).1
theorem pt (ts:List aq) (kd:Int):∃ h:cw ts kd < (dk ts kd).length,(dk ts kd)[cw ts kd]=⟨kd,0⟩:=by
 have hl:(ts.take (cw ts kd)).length=cw ts kd:=by rw [List.length_take,Nat.min_eq_left (iW ts kd)]
 have h:(dk ts kd)[cw ts kd]?=some ⟨kd,0⟩:=by
  unfold dk; rw [List.getElem?_append_right (by omega),hl,Nat.sub_self]; rfl
 exact List.getElem?_eq_some_iff.1 h
theorem n8 (ts:List aq) (kd:Int):(dk ts kd).length=ts.length+1:=by
 have:=iW ts kd
 unfold dk; simp; omega
section
variable {P:Program} {ops:Array Oper} {Q:Exit→Act→World→Prop} {md:Region.Mode}
def ax (vs:Nat→Value):List Oper→Nat→Act→Act
 | [],_,a=>a
 | o :: l,k,a=>ax vs l (k+1) (a.put o.dst (vs k))
def dB:List Oper→Bool
 | []=>true
 | o :: l=>l.all (fun p=>match o.dst with | none=>true | some d=>p.dst != some d) && dB l
def pa (vs:Nat→Value) (i:Nat) (v:Value):Nat→Value:=fun j=>if j=i then v else vs j
theorem kQ (vs:Nat→Value) {d:Option Tmp} {v:Value} : ∀ (l:List Oper) (k:Nat) (a:Act),(∀ p ∈ l,∀ t,d=some t→p.dst ≠ some t)→(ax vs l k a).put d v=ax vs l k (a.put d v)
 | [],_,_,_=>rfl
 | o :: l,k,a,h=>by
  unfold ax
  rw [kQ vs l (k+1) _ (fun p hp=>h p (List.mem_cons_of_mem _ hp))]
  rw [Act.put_comm a (vs k) v (x:=o.dst) (y:=d) (fun t ht hd=>h o (by simp) t hd ht)]
theorem ji {vs vs' : Nat→Value} : ∀ (l:List Oper) (k:Nat) (a:Act),(∀ j,k≤j→vs j=vs' j)→ax vs l k a=ax vs' l k a
 | [],_,_,_=>rfl
 | o :: l,k,a,h=>by
  unfold ax
  rw [h k (Nat.le_refl _),ji l (k+1) _ (fun j hj=>h j (by omega))]
theorem Act.put_put (a:Act) (d:Option Tmp) (u v:Value):(a.put d u).put d v=a.put d v:=by
 cases d with
 | none=>rfl
 | some d =>
  simp only [Act.put]
  congr 1
  apply Array.ext (by simp)
  intro i h1 h2
  simp
theorem gC:∀ (l:List Oper) (k:Nat) (a:Act) (vs:Nat→Value) (i:Nat) (o:Oper) (v:Value),dB l=true→l[i]?=some o →
  (ax vs l k a).put o.dst v=ax (pa vs (k+i) v) l k a
 | [],_,_,_,_,_,_,_,h=>by simp at h
 | p :: l,k,a,vs,0,o,v,hd,h=>by
  simp only [List.getElem?_cons_zero,Option.some.injEq] at h; subst h
  simp only [dB,Bool.and_eq_true,List.all_eq_true] at hd
  unfold ax
  rw [kQ vs l (k+1) _ (fun q hq t ht=>by
   have:=hd.1 q hq; rw [ht] at this; simpa using this),Act.put_put]
  rw [ji (vs:=vs) (vs':=pa vs (k+0) v) l (k+1) _ (fun j hj=>by unfold pa; rw [if_neg (by omega)])]
  congr 2
  simp [pa]
 | p :: l,k,a,vs,i+1,o,v,hd,h=>by
  simp only [dB,Bool.and_eq_true] at hd
  unfold ax
  rw [gC l (k+1) _ vs i o v hd.2 (by simpa using h)]
  have:k+1+i=k+(i+1):=by omega
  rw [this]
  congr 2
  unfold pa; rw [if_neg (by omega)]
theorem Act.put_self (a:Act) (t:Tmp) (u:Value):a.put (some t) (a.tmps.getD t u)=a:=by
 simp only [Act.put]
 obtain ⟨tmps,defers⟩:=a
 congr 1
 apply Array.ext_getElem?
 intro i
 by_cases e:t=i
 ·subst e
  by_cases h2:t < tmps.size
  ·simp [h2]
  ·simp [h2]
 ·rw [Array.getElem?_setIfInBounds_ne e]
theorem fJ (vs:Nat→Value):∀ (l:List Oper) (k:Nat) (a:Act),(∀ i o t,l[i]?=some o→o.dst=some t→vs (k+i)=a.tmps.getD t undef)→ax vs l k a=a
 | [],_,_,_=>rfl
 | o :: l,k,a,h=>by
  unfold ax
  have e:a.put o.dst (vs k)=a:=by
   cases hd:o.dst with
   | none=>rfl
   | some t =>
    have h0:=h 0 o t (by simp) hd
    rw [Nat.add_zero] at h0
    rw [h0,Act.put_self]
  rw [e]
  exact fJ vs l (k+1) a (fun i o' t h1 h2=>by
   have:=h (i+1) o' t (by simpa using h1) h2
   rwa [show k+(i+1)=k+1+i by omega] at this)
def bG (md:Region.Mode) (ops:Array Oper):Nat→Nat→Nat→Bool
 | 0,_,_=>false
 | fuel+1,k,j=>match ops[k]? with
  | none=>false
  | some o=>o.after.any fun e=>Region.binds md e && (e.on == j || bG md ops fuel e.on j)
def eJ (md:Region.Mode) (ops:Array Oper):Bool :=
 (List.range ops.size).all fun k=>match ops[k]? with
  | none=>true
  | some o=>o.after.all fun e=>!Region.binds md e || decide (e.on < k)
def nl (md:Region.Mode) (ops:Array Oper) (listed:Array Bool):Prop :=
 ∀ j o,ops[j]?=some o→listed.getD j false=true→∀ e ∈ o.after,Region.binds md e=true→listed.getD e.on false=true
theorem bZ {listed:Array Bool} (hc:nl md ops listed):∀ (fuel k j:Nat),(∀ o,ops[k]?=some o→∀ e ∈ o.after,Region.binds md e=true→listed.getD e.on false=true)→bG md ops fuel k j=true→listed.getD j false=true
 | 0,_,_,_,h=>by simp [bG] at h
 | fuel+1,k,j,hk,h=>by
  unfold bG at h
  cases ho:ops[k]? with
  | none=>simp [ho] at h
  | some o =>
   simp only [ho] at h
   obtain ⟨e,he,hb⟩:=Array.any_eq_true'.1 h
   simp only [Bool.and_eq_true,Bool.or_eq_true,beq_iff_eq] at hb
   have h1:=hk o ho e he hb.1
   rcases hb.2 with h2 | h2
   ·rw [← h2]; exact h1
   ·exact bZ hc fuel e.on j (fun o' ho'=>hc e.on o' ho' h1) h2
def gD (P:Program) (ops:Array Oper) (Q:Exit→Act→World→Prop) (C:World→Prop) (T:World→World→Prop) (fr:(Nat→Value)→Act):Nat→List Oper→List (Value→World→Prop)→Prop
 | _,[],Rs=>∀ vs w,C w→(∀ (j:Nat) (R:Value→World→Prop),Rs[j]?=some R→R (vs j) w)→Q .normal (fr vs) w
 | k,o :: l,Rs=>∃ R:Value→World→Prop,(∀ v w w',R v w→T w w'→R v w') ∧
  (∀ vs w,C w→(∀ (j:Nat) (R' : Value→World→Prop),bG .any ops ops.size k j=true→Rs[j]?=some R'→R' (vs j) w)→∀ K:Act→World→Prop,(∀ a' v w',a'=(fr vs).put o.dst v→R v w'→C w'→T w w'→K a' w') →
   if Region.wanted o (yielded ops (fr vs).tmps)=true then o.wp P (fr vs) w K Q else K ((fr vs).put o.dst undef) w) ∧
  gD P ops Q C T fr (k+1) l (Rs++[R])
theorem kS {C:World→Prop} {T:World→World→Prop} {fr:(Nat→Value)→Act} : ∀ (l:List Oper) (k:Nat) (Rs:List (Value→World→Prop)),(∀ i,l[i]?=ops[k+i]?)→Rs.length=k →
  (∀ (j:Nat) (R:Value→World→Prop),Rs[j]?=some R→∀ v w w',R v w→T w w'→R v w') →
  (∀ (j:Nat) (o:Oper) (R:Value→World→Prop),j < k→ops[j]?=some o→Rs[j]?=some R→∀ vs w,C w→(∀ (j' : Nat) (R' : Value→World→Prop),bG .any ops ops.size j j'=true→j' < j→Rs[j']?=some R'→R' (vs j') w)→∀ K:Act→World→Prop,(∀ a' v w',a'=(fr vs).put o.dst v→R v w'→C w'→T w w'→K a' w') →
   if Region.wanted o (yielded ops (fr vs).tmps)=true then o.wp P (fr vs) w K Q else K ((fr vs).put o.dst undef) w) →
  gD P ops Q C T fr k l Rs →
  ∃ Rs' : List (Value→World→Prop),Rs'.length=k+l.length∧(∀ (j:Nat) (R:Value→World→Prop),Rs'[j]?=some R→∀ v w w',R v w→T w w'→R v w') ∧
  (∀ (j:Nat) (o:Oper) (R:Value→World→Prop),ops[j]?=some o→Rs'[j]?=some R→∀ vs w,C w→(∀ (j' : Nat) (R' : Value→World→Prop),bG .any ops ops.size j j'=true→j' < j→Rs'[j']?=some R'→R' (vs j') w)→∀ K:Act→World→Prop,(∀ a' v w',a'=(fr vs).put o.dst v→R v w'→C w'→T w w'→K a' w') →
   if Region.wanted o (yielded ops (fr vs).tmps)=true then o.wp P (fr vs) w K Q else K ((fr vs).put o.dst undef) w) ∧
  (∀ vs w,C w→(∀ (j:Nat) (R:Value→World→Prop),Rs'[j]?=some R→R (vs j) w)→Q .normal (fr vs) w)
 | [],k,Rs,hl,hlen,hst,hop,h=>by
  refine ⟨Rs,by simpa using hlen,hst,fun j o R ho hR=>hop j o R ?_ ho hR,h⟩
  rw [← hlen]; exact (List.getElem?_eq_some_iff.1 hR).1
 | o :: l,k,Rs,hl,hlen,hst,hop,h=>by
  obtain ⟨R,hRs,hRo,hrest⟩:=h
  have ho:ops[k]?=some o:=by simpa using (hl 0).symm
  have hold:∀ j,j < k→(Rs++[R])[j]?=Rs[j]?:=fun j hj=>List.getElem?_append_left (by omega)
  have hnew:(Rs++[R])[k]?=some R:=by rw [List.getElem?_append_right (by omega),hlen]; simp
  obtain ⟨Rs',h1,h2,h3,h4⟩:=kS l (k+1) (Rs++[R]) (fun i=>by have:=hl (i+1); simpa [Nat.add_assoc,Nat.add_comm 1 i] using this) (by simp [hlen])
   (fun j R' hR'=>by
    rcases Nat.lt_trichotomy j k with hj | hj | hj
    ·rw [hold j hj] at hR'; exact hst j R' hR'
    ·subst hj; rw [hnew] at hR'; cases hR'; exact hRs
    ·rw [List.getElem?_eq_none (by simp [hlen]; omega)] at hR'; cases hR')
   (fun j o' R' hj ho' hR' vs w hC hB K hK=>by
    rcases Nat.lt_or_ge j k with hjk | hjk
    ·rw [hold j hjk] at hR'
     exact hop j o' R' hjk ho' hR' vs w hC (fun j' R'' ha hlt h''=>hB j' R'' ha hlt (by rw [hold j' (by omega)]; exact h'')) K hK
    ·obtain rfl:j=k:=by omega
     rw [ho] at ho'; cases ho'
     rw [hnew] at hR'; cases hR'
     refine hRo vs w hC (fun j' R'' ha h''=>?_) K hK
     have hlt:j' < Rs.length:=(List.getElem?_eq_some_iff.1 h'').1
     exact hB j' R'' ha (by omega) (by rw [hold j' (by omega)]; exact h''))
   hrest
  exact ⟨Rs',by rw [h1]; simp; omega,h2,h3,h4⟩
theorem fK {listed:Array Bool} (hdn:eJ .any ops=true) (hsz:listed.size=ops.size) (hr:Region.ready .any ops listed = []):∀ j,j < ops.size→listed.getD j false=true:=by
 intro j
 induction j using Nat.strongRecOn with
 | ind j ih =>
  intro hj
  rcases hb:listed.getD j false with _ | _
  ·exfalso
   have hmem:j ∈ Region.ready .any ops listed:=by
    rw [mem_ready]
    refine ⟨?_,ops[j],Array.getElem?_eq_getElem hj,fun e he hbd=>?_⟩
    ·have:j < listed.size:=by omega
     simp only [Array.getD,this,↓reduceDIte] at hb ⊢
     exact hb
    ·have h1:=List.all_eq_true.1 hdn j (List.mem_range.2 hj)
     rw [Array.getElem?_eq_getElem hj] at h1
     have h2:=Array.all_eq_true_iff_forall_mem.1 h1 e he
     simp only [hbd,Bool.not_true,Bool.false_or,decide_eq_true_eq] at h2
     exact ih e.on h2 (by omega)
   rw [hr] at hmem; cases hmem
  ·rfl
def dJ (n:Nat) (listed:Array Bool):Nat:=((List.range n).filter fun j=>!listed.getD j false).length
theorem er {n i:Nat} {listed:Array Bool} (hi:i < n) (hs:listed.size=n) (h:listed.getD i false=false):dJ n (listed.setIfInBounds i true) < dJ n listed:=by
 unfold dJ
 have e:∀ l:List Nat,(l.filter fun j=>!(listed.setIfInBounds i true).getD j false)=(l.filter fun j=>!listed.getD j false).filter (fun j=>j != i):=by
  intro l
  rw [List.filter_filter]
  apply List.filter_congr
  intro j _
  by_cases hji:j=i
  ·subst hji; have:j < listed.size:=by omega
   simp [this]
  ·rw [getD_set_ne false (Ne.symm hji)]; simp [hji]
 rw [e]
 have hm:i ∈ (List.range n).filter fun j=>!listed.getD j false:=List.mem_filter.2 ⟨List.mem_range.2 hi,by rw [h]; rfl⟩
 generalize (List.range n).filter (fun j=>!listed.getD j false)=l at hm
 clear e
 induction l with
 | nil=>cases hm
 | cons x l ih =>
  rw [List.filter_cons]
  split
  ·rename_i hx
   rcases List.mem_cons.1 hm with h' | h'
   ·simp [h'] at hx
   ·simpa using ih h'
  ·exact Nat.lt_succ_of_le (List.length_filter_le _ _)
theorem n9 {C:World→Prop} {T:World→World→Prop} {a₀:Act} (hap:dB ops.toList=true) (hdn:eJ .any ops=true) (Rs:List (Value→World→Prop)) (hlen:Rs.length=ops.size)
  (hst:∀ (j:Nat) (R:Value→World→Prop),Rs[j]?=some R→∀ v w w',R v w→T w w'→R v w')
  (hop:∀ (j:Nat) (o:Oper) (R:Value→World→Prop),ops[j]?=some o→Rs[j]?=some R→∀ vs w,C w→(∀ (j' : Nat) (R' : Value→World→Prop),bG .any ops ops.size j j'=true→j' < j→Rs[j']?=some R'→R' (vs j') w)→∀ K:Act→World→Prop,(∀ a' v w',a'=(ax vs ops.toList 0 a₀).put o.dst v→R v w'→C w'→T w w'→K a' w') →
   if Region.wanted o (yielded ops (ax vs ops.toList 0 a₀).tmps)=true then o.wp P (ax vs ops.toList 0 a₀) w K Q else K ((ax vs ops.toList 0 a₀).put o.dst undef) w)
  (hend:∀ vs w,C w→(∀ (j:Nat) (R:Value→World→Prop),Rs[j]?=some R→R (vs j) w)→Q .normal (ax vs ops.toList 0 a₀) w) :
  ∀ (fuel:Nat) (listed:Array Bool) (vs:Nat→Value) (w:World),listed.size=ops.size→dJ ops.size listed≤fuel→nl .any ops listed→C w→(∀ (j:Nat) (R:Value→World→Prop),listed.getD j false=true→Rs[j]?=some R→R (vs j) w) →
   wpAny P .any ops Q fuel listed (ax vs ops.toList 0 a₀) w:=by
 have hfin:∀ (listed:Array Bool) (vs:Nat→Value) (w:World),listed.size=ops.size→C w→(∀ (j:Nat) (R:Value→World→Prop),listed.getD j false=true→Rs[j]?=some R→R (vs j) w)→Region.ready .any ops listed = []→Q .normal (ax vs ops.toList 0 a₀) w :=
  fun listed vs w hs hC hR hr=>hend vs w hC fun j R hj=>hR j R (fK hdn hs hr j (by rw [← hlen]; exact (List.getElem?_eq_some_iff.1 hj).1)) hj
 intro fuel
 induction fuel with
 | zero =>
  intro listed vs w hs hu hcl hC hR
  have hr:Region.ready .any ops listed = []:=by
   rw [List.eq_nil_iff_forall_not_mem]
   intro j hj
   obtain ⟨h0,o,ho,_⟩:=mem_ready.1 hj
   have hjs:j < ops.size:=(Array.getElem?_eq_some_iff.1 ho).1
   have:dJ ops.size (listed.setIfInBounds j true) < dJ ops.size listed:=er hjs hs (by
    have:j < listed.size:=by omega
    simp only [Array.getD,this,↓reduceDIte] at h0 ⊢; exact h0)
   omega
  exact ⟨hr,hfin listed vs w hs hC hR hr⟩
 | succ fuel ih =>
  intro listed vs w hs hu hcl hC hR
  refine ⟨hfin listed vs w hs hC hR,fun i hi=>?_⟩
  obtain ⟨h0,o,ho,hall⟩:=mem_ready.1 hi
  have hisz:i < ops.size:=(Array.getElem?_eq_some_iff.1 ho).1
  have hil:i < listed.size:=by omega
  have h0' : listed.getD i false=false:=by simp only [Array.getD,hil,↓reduceDIte] at h0 ⊢; exact h0
  obtain ⟨R,hRi⟩ : ∃ R,Rs[i]?=some R:=⟨Rs[i]'(by omega),List.getElem?_eq_getElem (by omega)⟩
  have hstep:=hop i o R ho hRi vs w hC (fun j' R' ha _ hR'=>hR j' R' (bZ hcl ops.size i j' (fun o' ho'=>by rw [ho] at ho'; cases ho'; exact hall) ha) hR')
   (wpAny P .any ops Q fuel (listed.setIfInBounds i true)) (fun a' v w' ha hRv hC' hT=>by
    rw [ha,gC ops.toList 0 a₀ vs i o v hap (by simpa using ho),Nat.zero_add]
    refine ih _ _ _ (by simpa using hs) ?_ ?_ hC' ?_
    ·have:=er hisz hs h0'; omega
    ·intro j oj hoj hj e he hb
     by_cases hji:j=i
     ·subst hji; rw [ho] at hoj; cases hoj; exact getD_set_true (hall e he hb)
     ·rw [getD_set_ne false (Ne.symm hji)] at hj; exact getD_set_true (hcl j oj hoj hj e he hb)
    ·intro j R' hj hR'
     by_cases hji:j=i
     ·subst hji; rw [hRi] at hR'; cases hR'; simpa [pa] using hRv
     ·rw [getD_set_ne false (Ne.symm hji)] at hj
      have:=hst j R' hR' _ _ _ (hR j R' hj hR') hT
      simpa [pa,hji] using this)
  unfold wpOp
  simp only [ho]
  split
  ·rename_i hw; rw [if_pos hw] at hstep; exact .inl hstep
  ·rename_i hw; rw [if_neg hw] at hstep; exact hstep
theorem fE {id:Nat} {a:Act} {w:World} {l:List Oper} (C:World→Prop) (T:World→World→Prop) (hm:P.follows .mixedOrders=true) (hap:dB l=true) (hdn:eJ .any l.toArray=true)
  (hC:C w.drew) (h:gD P l.toArray Q C T (fun vs=>ax vs l 0 a) 0 l []):(Code.region id l.toArray true).wp P Q a w:=by
 refine wp_region_any hm ?_
 obtain ⟨Rs,h1,h2,h3,h4⟩:=kS (ops:=l.toArray) l 0 [] (by simp) rfl (by simp) (by simp) h
 obtain ⟨vs,hvs⟩ : ∃ vs:Nat→Value,∀ i o t,l[i]?=some o→o.dst=some t→vs (0+i)=a.tmps.getD t undef :=
  ⟨fun i=>match (l[i]?).bind (·.dst) with | some t=>a.tmps.getD t undef | none=>undef,fun i o t hi ht=>by simp [hi,ht]⟩
 have:=n9 (P:=P) (Q:=Q) (ops:=l.toArray) (C:=C) (T:=T) (a₀:=a) hap hdn Rs (by simpa using h1) h2 h3 h4 l.toArray.size (Array.replicate l.toArray.size false) vs w.drew (by simp)
  (Nat.le_trans (List.length_filter_le _ _) (by simp)) (fun j o hj hl=>by simp [Array.getD] at hl) hC (fun j R hl=>by simp [Array.getD] at hl)
 rwa [fJ vs _ 0 a (by simpa using hvs)] at this
theorem iJ {C:World→Prop} {T:World→World→Prop} {fr:(Nat→Value)→Act} {k:Nat} {Rs:List (Value→World→Prop)} (h:∀ vs w,C w→(∀ (j:Nat) (R:Value→World→Prop),Rs[j]?=some R→R (vs j) w)→Q .normal (fr vs) w):gD P ops Q C T fr k [] Rs:=h
theorem aF {C:World→Prop} {T:World→World→Prop} {fr:(Nat→Value)→Act} {k:Nat} {o:Oper} {l:List Oper} {Rs:List (Value→World→Prop)} (V:Value)
  (h1:∀ vs w,C w→(∀ (j:Nat) (R' : Value→World→Prop),bG .any ops ops.size k j=true→Rs[j]?=some R'→R' (vs j) w)→∀ K:Act→World→Prop,(∀ a' w',a'=(fr vs).put o.dst V→C w'→T w w'→K a' w') →
   if Region.wanted o (yielded ops (fr vs).tmps)=true then o.wp P (fr vs) w K Q else K ((fr vs).put o.dst undef) w)
  (h2:gD P ops Q C T fr (k+1) l (Rs++[fun v _=>v=V])):gD P ops Q C T fr k (o :: l) Rs :=
 ⟨fun v _=>v=V,fun _ _ _ h _=>h,fun vs w hC hB K hK=>h1 vs w hC hB K fun a' w' ha hC' hT=>hK a' V w' ha rfl hC' hT,h2⟩
theorem im {C:World→Prop} {T:World→World→Prop} {fr:(Nat→Value)→Act} {k:Nat} {o:Oper} {l:List Oper} {Rs:List (Value→World→Prop)} (R:Value→World→Prop) (hR:∀ v w w',R v w→T w w'→R v w')
  (h1:∀ vs w,C w→(∀ (j:Nat) (R' : Value→World→Prop),bG .any ops ops.size k j=true→Rs[j]?=some R'→R' (vs j) w)→∀ K:Act→World→Prop,(∀ a' v w',a'=(fr vs).put o.dst v→R v w'→C w'→T w w'→K a' w') →
   if Region.wanted o (yielded ops (fr vs).tmps)=true then o.wp P (fr vs) w K Q else K ((fr vs).put o.dst undef) w)
  (h2:gD P ops Q C T fr (k+1) l (Rs++[R])):gD P ops Q C T fr k (o :: l) Rs :=
 ⟨R,hR,h1,h2⟩
end
section
variable {P:Program} {ops:Array Oper} {Q:Exit→Act→World→Prop}
def fz (P:Program) (ops:Array Oper) (Q:Exit→Act→World→Prop) (C:World→Prop) (T:World→World→Prop) (fr:(Nat→Value)→Act):Nat→List Oper→List (Value→World→Prop)→Prop
 | _,[],_=>False
 | k,o :: l,Rs=>(l = []∧∀ vs w,C w→(∀ (j:Nat) (R:Value→World→Prop),Rs[j]?=some R→R (vs j) w)→∀ K:Act→World→Prop,(∀ a' w',Q .normal a' w'→K a' w') →
   if Region.wanted o (yielded ops (fr vs).tmps)=true then o.wp P (fr vs) w K Q else K ((fr vs).put o.dst undef) w) ∨
  (∃ R:Value→World→Prop,(∀ v w w',R v w→T w w'→R v w') ∧
  (∀ vs w,C w→(∀ (j:Nat) (R' : Value→World→Prop),bG .any ops ops.size k j=true→Rs[j]?=some R'→R' (vs j) w)→∀ K:Act→World→Prop,(∀ a' v w',a'=(fr vs).put o.dst v→R v w'→C w'→T w w'→K a' w') →
   if Region.wanted o (yielded ops (fr vs).tmps)=true then o.wp P (fr vs) w K Q else K ((fr vs).put o.dst undef) w) ∧
  fz P ops Q C T fr (k+1) l (Rs++[R]))
theorem jM {C:World→Prop} {T:World→World→Prop} {fr:(Nat→Value)→Act} : ∀ (l:List Oper) (k:Nat) (Rs:List (Value→World→Prop)),(∀ i,l[i]?=ops[k+i]?)→Rs.length=k →
  (∀ (j:Nat) (R:Value→World→Prop),Rs[j]?=some R→∀ v w w',R v w→T w w'→R v w') →
  (∀ (j:Nat) (o:Oper) (R:Value→World→Prop),j < k→ops[j]?=some o→Rs[j]?=some R→∀ vs w,C w→(∀ (j' : Nat) (R' : Value→World→Prop),bG .any ops ops.size j j'=true→j' < j→Rs[j']?=some R'→R' (vs j') w)→∀ K:Act→World→Prop,(∀ a' v w',a'=(fr vs).put o.dst v→R v w'→C w'→T w w'→K a' w') →
   if Region.wanted o (yielded ops (fr vs).tmps)=true then o.wp P (fr vs) w K Q else K ((fr vs).put o.dst undef) w) →
  fz P ops Q C T fr k l Rs →
  ∃ Rs' : List (Value→World→Prop),Rs'.length+1=ops.size∧(∀ (j:Nat) (R:Value→World→Prop),Rs'[j]?=some R→∀ v w w',R v w→T w w'→R v w') ∧
  (∀ (j:Nat) (o:Oper) (R:Value→World→Prop),ops[j]?=some o→Rs'[j]?=some R→∀ vs w,C w→(∀ (j' : Nat) (R' : Value→World→Prop),bG .any ops ops.size j j'=true→j' < j→Rs'[j']?=some R'→R' (vs j') w)→∀ K:Act→World→Prop,(∀ a' v w',a'=(fr vs).put o.dst v→R v w'→C w'→T w w'→K a' w') →
   if Region.wanted o (yielded ops (fr vs).tmps)=true then o.wp P (fr vs) w K Q else K ((fr vs).put o.dst undef) w) ∧
  (∀ o,ops[Rs'.length]?=some o→∀ vs w,C w→(∀ (j:Nat) (R:Value→World→Prop),Rs'[j]?=some R→R (vs j) w)→∀ K:Act→World→Prop,(∀ a' w',Q .normal a' w'→K a' w') →
   if Region.wanted o (yielded ops (fr vs).tmps)=true then o.wp P (fr vs) w K Q else K ((fr vs).put o.dst undef) w)
 | [],k,Rs,_,_,_,_,h=>h.elim
 | o :: l,k,Rs,hl,hlen,hst,hop,h=>by
  have ho:ops[k]?=some o:=by simpa using (hl 0).symm
  rcases h with ⟨rfl,hlast⟩ | ⟨R,hRs,hRo,hrest⟩
  ·have h1:ops[k+1]?=none:=by have:=hl 1; simpa using this.symm
   have hk:k < ops.size:=(Array.getElem?_eq_some_iff.1 ho).1
   have hk1 : ¬ k+1 < ops.size:=fun hh=>by rw [Array.getElem?_eq_getElem hh] at h1; cases h1
   refine ⟨Rs,by omega,hst,fun j o R ho hR=>hop j o R ?_ ho hR,fun o' ho'=>?_⟩
   ·rw [← hlen]; exact (List.getElem?_eq_some_iff.1 hR).1
   ·rw [hlen,ho] at ho'; cases ho'; exact hlast
  ·have hold:∀ j,j < k→(Rs++[R])[j]?=Rs[j]?:=fun j hj=>List.getElem?_append_left (by omega)
   have hnew:(Rs++[R])[k]?=some R:=by rw [List.getElem?_append_right (by omega),hlen]; simp
   exact jM l (k+1) (Rs++[R]) (fun i=>by have:=hl (i+1); simpa [Nat.add_assoc,Nat.add_comm 1 i] using this) (by simp [hlen])
    (fun j R' hR'=>by
     rcases Nat.lt_trichotomy j k with hj | hj | hj
     ·rw [hold j hj] at hR'; exact hst j R' hR'
     ·subst hj; rw [hnew] at hR'; cases hR'; exact hRs
     ·rw [List.getElem?_eq_none (by simp [hlen]; omega)] at hR'; cases hR')
    (fun j o' R' hj ho' hR' vs w hC hB K hK=>by
     rcases Nat.lt_or_ge j k with hjk | hjk
     ·rw [hold j hjk] at hR'
      exact hop j o' R' hjk ho' hR' vs w hC (fun j' R'' ha hlt h''=>hB j' R'' ha hlt (by rw [hold j' (by omega)]; exact h'')) K hK
     ·obtain rfl:j=k:=by omega
      rw [ho] at ho'; cases ho'
      rw [hnew] at hR'; cases hR'
      refine hRo vs w hC (fun j' R'' ha h''=>?_) K hK
      have hlt:j' < Rs.length:=(List.getElem?_eq_some_iff.1 h'').1
      exact hB j' R'' ha (by omega) (by rw [hold j' (by omega)]; exact h''))
    hrest
def od (ops:Array Oper) (n:Nat):Bool:=(List.range n).all fun j=>bG .any ops ops.size n j
theorem nn {C:World→Prop} {T:World→World→Prop} {a₀:Act} (hap:dB ops.toList=true) (hdn:eJ .any ops=true) (Rs:List (Value→World→Prop)) (hlen:Rs.length+1=ops.size) (hah:od ops Rs.length=true)
  (hst:∀ (j:Nat) (R:Value→World→Prop),Rs[j]?=some R→∀ v w w',R v w→T w w'→R v w')
  (hop:∀ (j:Nat) (o:Oper) (R:Value→World→Prop),ops[j]?=some o→Rs[j]?=some R→∀ vs w,C w→(∀ (j' : Nat) (R' : Value→World→Prop),bG .any ops ops.size j j'=true→j' < j→Rs[j']?=some R'→R' (vs j') w)→∀ K:Act→World→Prop,(∀ a' v w',a'=(ax vs ops.toList 0 a₀).put o.dst v→R v w'→C w'→T w w'→K a' w') →
   if Region.wanted o (yielded ops (ax vs ops.toList 0 a₀).tmps)=true then o.wp P (ax vs ops.toList 0 a₀) w K Q else K ((ax vs ops.toList 0 a₀).put o.dst undef) w)
  (hlast:∀ o,ops[Rs.length]?=some o→∀ vs w,C w→(∀ (j:Nat) (R:Value→World→Prop),Rs[j]?=some R→R (vs j) w)→∀ K:Act→World→Prop,(∀ a' w',Q .normal a' w'→K a' w') →
   if Region.wanted o (yielded ops (ax vs ops.toList 0 a₀).tmps)=true then o.wp P (ax vs ops.toList 0 a₀) w K Q else K ((ax vs ops.toList 0 a₀).put o.dst undef) w) :
  ∀ (fuel:Nat) (listed:Array Bool) (vs:Nat→Value) (w:World),listed.size=ops.size→dJ ops.size listed≤fuel→nl .any ops listed→listed.getD Rs.length false=false→C w→(∀ (j:Nat) (R:Value→World→Prop),listed.getD j false=true→Rs[j]?=some R→R (vs j) w) →
   wpAny P .any ops Q fuel listed (ax vs ops.toList 0 a₀) w:=by
 intro fuel
 induction fuel with
 | zero =>
  intro listed vs w hs hu hcl hn hC hR
  have:dJ ops.size (listed.setIfInBounds Rs.length true) < dJ ops.size listed:=er (by omega) hs hn
  omega
 | succ fuel ih =>
  intro listed vs w hs hu hcl hn hC hR
  refine ⟨fun hr=>?_,fun i hi=>?_⟩
  ·have:=fK hdn hs hr Rs.length (by omega)
   rw [hn] at this; cases this
  obtain ⟨h0,o,ho,hall⟩:=mem_ready.1 hi
  have hisz:i < ops.size:=(Array.getElem?_eq_some_iff.1 ho).1
  have hil:i < listed.size:=by omega
  have h0' : listed.getD i false=false:=by simp only [Array.getD,hil,↓reduceDIte] at h0 ⊢; exact h0
  by_cases hin:i=Rs.length
  ·have hall' : ∀ j,j < Rs.length→listed.getD j false=true:=fun j hj=>by
    refine bZ hcl ops.size i j (fun o' ho'=>by rw [ho] at ho'; cases ho'; exact hall) ?_
    rw [hin]; exact List.all_eq_true.1 hah j (List.mem_range.2 hj)
   have hstep:=hlast o (by rw [← hin]; exact ho) vs w hC (fun j R hj=>hR j R (hall' j (List.getElem?_eq_some_iff.1 hj).1) hj)
    (wpAny P .any ops Q fuel (listed.setIfInBounds i true)) (fun a' w' hq=>by
     have hfull:∀ j,j ∉ Region.ready .any ops (listed.setIfInBounds i true):=fun j hj=>by
      obtain ⟨g0,o',ho',_⟩:=mem_ready.1 hj
      have hjs:j < ops.size:=(Array.getElem?_eq_some_iff.1 ho').1
      have hjl:j < (listed.setIfInBounds i true).size:=by simp; omega
      have g0' : (listed.setIfInBounds i true).getD j false=false:=by simp only [Array.getD,hjl,↓reduceDIte] at g0 ⊢; exact g0
      by_cases hji:j=i
      ·subst hji; simp [hil] at g0'
      ·rw [getD_set_ne false (Ne.symm hji),hall' j (by omega)] at g0'; cases g0'
     have hnil:Region.ready .any ops (listed.setIfInBounds i true) = []:=List.eq_nil_iff_forall_not_mem.2 hfull
     cases fuel with
     | zero=>exact ⟨hnil,hq⟩
     | succ fuel=>exact ⟨fun _=>hq,fun j hj=>absurd hj (hfull j)⟩)
   unfold wpOp
   simp only [ho]
   split
   ·rename_i hw; rw [if_pos hw] at hstep; exact .inl hstep
   ·rename_i hw; rw [if_neg hw] at hstep; exact hstep
  obtain ⟨R,hRi⟩ : ∃ R,Rs[i]?=some R:=⟨Rs[i]'(by omega),List.getElem?_eq_getElem (by omega)⟩
  have hstep:=hop i o R ho hRi vs w hC (fun j' R' ha _ hR'=>hR j' R' (bZ hcl ops.size i j' (fun o' ho'=>by rw [ho] at ho'; cases ho'; exact hall) ha) hR')
   (wpAny P .any ops Q fuel (listed.setIfInBounds i true)) (fun a' v w' ha hRv hC' hT=>by
    rw [ha,gC ops.toList 0 a₀ vs i o v hap (by simpa using ho),Nat.zero_add]
    refine ih _ _ _ (by simpa using hs) ?_ ?_ ?_ hC' ?_
    ·have:=er hisz hs h0'; omega
    ·intro j oj hoj hj e he hb
     by_cases hji:j=i
     ·subst hji; rw [ho] at hoj; cases hoj; exact getD_set_true (hall e he hb)
     ·rw [getD_set_ne false (Ne.symm hji)] at hj; exact getD_set_true (hcl j oj hoj hj e he hb)
    ·rw [getD_set_ne false (fun h=>hin h)]; exact hn
    ·intro j R' hj hR'
     by_cases hji:j=i
     ·subst hji; rw [hRi] at hR'; cases hR'; simpa [pa] using hRv
     ·rw [getD_set_ne false (Ne.symm hji)] at hj
      have:=hst j R' hR' _ _ _ (hR j R' hj hR') hT
      simpa [pa,hji] using this)
  unfold wpOp
  simp only [ho]
  split
  ·rename_i hw; rw [if_pos hw] at hstep; exact .inl hstep
  ·rename_i hw; rw [if_neg hw] at hstep; exact hstep
theorem eu {id:Nat} {a:Act} {w:World} {l:List Oper} (C:World→Prop) (T:World→World→Prop) (hm:P.follows .mixedOrders=true) (hap:dB l=true) (hdn:eJ .any l.toArray=true) (hah:od l.toArray (l.length - 1)=true)
    (hC:C w.drew) (h:fz P l.toArray Q C T (fun vs=>ax vs l 0 a) 0 l []):(Code.region id l.toArray true).wp P Q a w:=by
  refine wp_region_any hm ?_
  obtain ⟨Rs,h1,h2,h3,h4⟩:=jM (ops:=l.toArray) l 0 [] (by simp) rfl (by simp) (by simp) h
  obtain ⟨vs,hvs⟩ : ∃ vs:Nat→Value,∀ i o t,l[i]?=some o→o.dst=some t→vs (0+i)=a.tmps.getD t undef :=
    ⟨fun i=>match (l[i]?).bind (·.dst) with | some t=>a.tmps.getD t undef | none=>undef,fun i o t hi ht=>by simp [hi,ht]⟩
  have hl1 : Rs.length = l.length - 1 := by have h1' : Rs.length + 1 = l.length := by simpa using h1
                                            omega
  have:=nn (P:=P) (Q:=Q) (ops:=l.toArray) (C:=C) (T:=T) (a₀:=a) hap hdn Rs h1 (by rw [hl1]; exact hah) h2 h3 h4 l.toArray.size (Array.replicate l.toArray.size false) vs w.drew (by simp)
    (Nat.le_trans (List.length_filter_le _ _) (by simp)) (fun j o hj hl=>by simp [Array.getD] at hl) (by simp [Array.getD]) hC (fun j R hl=>by simp [Array.getD] at hl)
  rwa [fJ vs _ 0 a (by simpa using hvs)] at this
theorem ft {C : World → Prop} {T : World → World → Prop} {fr : (Nat → Value) → Act} {k : Nat} {o : Oper} {Rs : List (Value → World → Prop)} (h : ∀ vs w, C w → (∀ (j : Nat) (R : Value → World → Prop), Rs[j]? = some R → R (vs j) w) → ∀ K : Act → World → Prop, (∀ a' w', Q .normal a' w' → K a' w') →
      if Region.wanted o (yielded ops (fr vs).tmps)=true then o.wp P (fr vs) w K Q else K ((fr vs).put o.dst undef) w):fz P ops Q C T fr k [o] Rs:=.inl ⟨rfl,h⟩
theorem aD {C:World→Prop} {T:World→World→Prop} {fr:(Nat→Value)→Act} {k:Nat} {o:Oper} {l:List Oper} {Rs:List (Value→World→Prop)} (V:Value)
  (h1:∀ vs w,C w→(∀ (j:Nat) (R' : Value→World→Prop),bG .any ops ops.size k j=true→Rs[j]?=some R'→R' (vs j) w)→∀ K:Act→World→Prop,(∀ a' w',a'=(fr vs).put o.dst V→C w'→T w w'→K a' w') →
   if Region.wanted o (yielded ops (fr vs).tmps)=true then o.wp P (fr vs) w K Q else K ((fr vs).put o.dst undef) w)
  (h2:fz P ops Q C T fr (k+1) l (Rs++[fun v _=>v=V])):fz P ops Q C T fr k (o :: l) Rs :=
 .inr ⟨fun v _=>v=V,fun _ _ _ h _=>h,fun vs w hC hB K hK=>h1 vs w hC hB K fun a' w' ha hC' hT=>hK a' V w' ha rfl hC' hT,h2⟩
theorem bX {C:World→Prop} {T:World→World→Prop} {fr:(Nat→Value)→Act} {k:Nat} {o:Oper} {l:List Oper} {Rs:List (Value→World→Prop)} (R:Value→World→Prop) (hR:∀ v w w',R v w→T w w'→R v w')
  (h1:∀ vs w,C w→(∀ (j:Nat) (R' : Value→World→Prop),bG .any ops ops.size k j=true→Rs[j]?=some R'→R' (vs j) w)→∀ K:Act→World→Prop,(∀ a' v w',a'=(fr vs).put o.dst v→R v w'→C w'→T w w'→K a' w') →
   if Region.wanted o (yielded ops (fr vs).tmps)=true then o.wp P (fr vs) w K Q else K ((fr vs).put o.dst undef) w)
  (h2:fz P ops Q C T fr (k+1) l (Rs++[R])):fz P ops Q C T fr k (o :: l) Rs :=
 .inr ⟨R,hR,h1,h2⟩
end
end Go.Proofs.YtoeoimhemojdeaaGreatDoor
