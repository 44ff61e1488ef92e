/- Lemmas. -/
import Derived.Test.YtoeoimhemojdeaaGreatDoorFr06

set_option linter.unusedVariables false
set_option linter.unusedSimpArgs false
set_option maxHeartbeats 8000000
open Go.Value renaming int → O, slice → F, string → xh
open Go.IntKind renaming i64 → U
open Go.Proofs.Tryz renaming prog → xi

namespace Go.Proofs.YtoeoimhemojdeaaGreatDoor
open Go.RowKit
def Bd (z:Int):Prop:=-1000000≤z∧z≤1000000
def Sm (z:Int):Prop:=-100000≤z∧z≤100000
theorem qX {z:Int} (h:Sm z):Bd z:=⟨by have:=h.1; omega,by have:=h.2; omega⟩
theorem vr {z:Int} (h:Sm z):Bd (z+1):=⟨by have:=h.1; omega,by have:=h.2; omega⟩
theorem tT {z:Int} (h:Sm z):IntKind.i64.wrap (z+1)=z+1:=IntWalk.i64_in _ (by have:=h.1; have:=h.2; omega)
theorem vu {z:Int} {l:List Int} (hz:z ∈ l) (h:l.all (fun x=>decide (-1000000≤x) && decide (x≤1000000))=true):Bd z:=by
 have:=List.all_eq_true.1 h z hz
 rw [Bool.and_eq_true,decide_eq_true_eq,decide_eq_true_eq] at this
 exact this
theorem wH {z:Int} {l:List Int} (hz:z ∈ l) (h:l.all (fun x=>decide (-100000≤x) && decide (x≤100000))=true):Sm z:=by
 have:=List.all_eq_true.1 h z hz
 rw [Bool.and_eq_true,decide_eq_true_eq,decide_eq_true_eq] at this
 exact this
def tU (s:de):Prop:=Bd s.kind∧Bd s.stamp∧Bd s.person∧Bd s.value
theorem wC {a b c d:Int} (h1:Bd a) (h2:Bd b) (h3:Bd c) (h4:Bd d):tU ⟨a,b,c,d⟩:=⟨h1,h2,h3,h4⟩
def wR (x:aN):Prop:=(∀ t ∈ x.t,Sm t.k∧Sm t.c)∧(∀ o ∈ x.o,Sm o.k∧Sm o.p∧Sm o.c)
theorem di {w W:World} {g:Nat} {A:Option Addr} {bs:List UInt8} {cap m:Nat} (E:fb w W g A bs cap m) (b n:Nat) (l:List Int) (hl:l.length=n) (hL:ai W b 3 (bj l)) (xw:b ≠ g) (h0:0 < n) (hn:n≤100000) (hm:m≤900000000) :
  Calls xi 73 #[.pointer (some ⟨g,0,none⟩),F (some ⟨b,0,none⟩) n n] W fun e w'=>∃ x:Int,e=.returned (O U x)∧x ∈ l∧fb w w' g A bs cap (m+2)∧W.grownBy w' (some g):=by
 subst hl
 have hi:iS W W.heap.size (some ⟨b,0,none⟩) l:=hL.reads (jk l) oM
 exact (mg g A _ cap _ m bs l _ h0 hn hm E.cur E.rd hi (by intro e; injection e with e; exact xw e)).mono fun _ _ ⟨x,he,hx,hc,hg⟩=>⟨x,he,hx,E.next hc hg,hg⟩
theorem qh (a b:Int) (w:World):Calls xi 112 #[O U a,O U b] w fun e w'=>(∃ z:Int,e=.returned (O U z)∧(z=a ∨ z=b))∧Below w.heap.size w w':=by
 by_cases h:b < a
 all_goals
  go_enter Tryz.func112,Tryz.ntmps112
  go_wp2
  go_ret
  first | exact ⟨⟨_,rfl,.inl rfl⟩,Below.refl _ _⟩ | exact ⟨⟨_,rfl,.inr rfl⟩,Below.refl _ _⟩
structure wD (w W wx:World) (g:Nat) (A:Option Addr) (bs:List UInt8) (cap m:Nat) (x:aN) (h5 h6:Nat):Prop where
 env:fb w wx g A bs cap m
 bx:ai wx W.heap.size 40 [F x.TA x.t.length x.tc,F x.OA x.o.length x.oc,O U x.gt,O U x.sd,O U x.ms]
 out:ai wx (W.heap.size+1) 112 [O U 0,O U 0,O U 0,O U 0]
 tr:∃ a b:Int,ai wx h5 104 [O U a,O U b]∧Sm a∧Sm b
 ou:∃ a b c:Int,ai wx h6 147 [O U a,O U b,O U c]∧Sm a∧Sm b∧Sm c
 rx:aQ wx wx.heap.size x
 gr:W.grownBy wx (some g)
 l1:W.heap.size+1 < h5
 l2:h5 < h6
 lt:g < W.heap.size
theorem wD.mono {w W wx:World} {g:Nat} {A:Option Addr} {bs:List UInt8} {cap m m' : Nat} {x:aN} {h5 h6:Nat} (h:wD w W wx g A bs cap m x h5 h6) (hm:m≤m'):wD w W wx g A bs cap m' x h5 h6:={ h with env:=h.env.mono hm }
set_option maxRecDepth 100000 in
theorem jY (x:aN) (za:wR x) (g:Nat) (A:Option Addr) (bs:List UInt8) (cap m:Nat) (w W:World) (hm:m≤800000000) (ht:x.t.length≤100000) (ho:x.o.length≤100000) (E0:fb w W g A bs cap m) (hR:aQ W W.heap.size x) (Em:∀ b,x.TA.map (·.block)=some b→b ≠ g) (IP:∀ b,x.OA.map (·.block)=some b→b ≠ g) :
  Calls xi 111 #[.pointer (some ⟨g,0,none⟩),x.val] W fun e w'=>∃ s:de,e=.returned s.val∧tU s∧fb w w' g A bs cap (m+100)∧W.grownBy w' (some g):=by
 have Lu:=jZ za
 clear za
 have Cq:=hR.ts.big
 have yZ:=hR.os.big
 have hB:=E0.lt
 have hwW:=E0.gr.size
 have L3:=(ai.new W 40 #[F x.TA x.t.length x.tc,F x.OA x.o.length x.oc,O U x.gt,O U x.sd,O U x.ms]).alloc (.cells #[O U 0,O U 0,O U 0,O U 0] 112)
 have L4:=ai.new1 W (.cells #[F x.TA x.t.length x.tc,F x.OA x.o.length x.oc,O U x.gt,O U x.sd,O U x.ms] 40) 112 #[O U 0,O U 0,O U 0,O U 0]
 have E2:=(E0.alloc (.cells #[F x.TA x.t.length x.tc,F x.OA x.o.length x.oc,O U x.gt,O U x.sd,O U x.ms] 40)).alloc (.cells #[O U 0,O U 0,O U 0,O U 0] 112)
 have xo:Below W.heap.size W ((W.alloc (.cells #[F x.TA x.t.length x.tc,F x.OA x.o.length x.oc,O U x.gt,O U x.sd,O U x.ms] 40)).alloc (.cells #[O U 0,O U 0,O U 0,O U 0] 112)):=(bZ W (.cells #[F x.TA x.t.length x.tc,F x.OA x.o.length x.oc,O U x.gt,O U x.sd,O U x.ms] 40)).alloc sP (.cells #[O U 0,O U 0,O U 0,O U 0] 112)
 have G2:W.grownBy ((W.alloc (.cells #[F x.TA x.t.length x.tc,F x.OA x.o.length x.oc,O U x.gt,O U x.sd,O U x.ms] 40)).alloc (.cells #[O U 0,O U 0,O U 0,O U 0] 112)) (some g):=bJ xo _
 have R2:=hR.up xo nR
 have xY:((W.alloc (.cells #[F x.TA x.t.length x.tc,F x.OA x.o.length x.oc,O U x.gt,O U x.sd,O U x.ms] 40)).alloc (.cells #[O U 0,O U 0,O U 0,O U 0] 112)).heap.size=W.heap.size+1+1:=sP
 clear xo
 go_enter Tryz.func111,Tryz.ntmps111
 go_upto_region 1 with fail
 generalize ((W.alloc (.cells #[F x.TA x.t.length x.tc,F x.OA x.o.length x.oc,O U x.gt,O U x.sd,O U x.ms] 40)).alloc (.cells #[O U 0,O U 0,O U 0,O U 0] 112))=W2 at L3 L4 E2 G2 R2 xY ⊢
 have HS:=jZ xY
 have Av:=jZ Em
 have Dn:=jZ IP
 have MK:=jZ E0
 have HR:=jZ hR
 clear xY Em IP E0 hR
 go_cut [5,6] (fun s5 s6 wx=>∃ h5 h6:Nat,s5=.pointer (some ⟨h5,0,none⟩)∧s6=.pointer (some ⟨h6,0,none⟩)∧wD w W wx g A bs cap (m+2) x h5 h6)
 case first =>
  go_wp2_with fail
  refine (kA E2 [1,7] 2 rfl _ rfl oM oM oM).mono ?_
  rintro e W3 ⟨z,rfl,hz,E3,gr⟩
  have M3:=L3.kept gr iE
  have M4:=L4.kept gr iE
  have g3:=gr.size
  go_wp2_with fail
  go_meet
  case rel =>
   have HL:=(ai.new W3 104 #[O U z,O U 3]).alloc (.cells #[O U 1,O U 5,O U 1] 147)
   refine ⟨_,_,rfl,rfl,(E3.alloc _).alloc _,(M3.alloc _).alloc _,(M4.alloc _).alloc _,⟨_,_,HL,wH hz dD,⟨dD,dD⟩⟩,⟨_,_,_,ai.new1 W3 _ 147 #[O U 1,O U 5,O U 1],⟨dD,dD⟩,⟨dD,dD⟩,⟨dD,dD⟩⟩, ?_,cr (cr (aA G2 gr) _) _,by have:=HS.out; omega,oM,oM⟩
   have GS:Below W3.heap.size W3 ((W3.alloc (.cells #[O U z,O U 3] 104)).alloc (.cells #[O U 1,O U 5,O U 1] 147)):=(jB.alloc nR _).alloc sP _
   exact ⟨bi.up (bi.gr R2.ts Av.out gr) GS nR,bi.up (bi.gr R2.os Dn.out gr) GS nR⟩
 case rest =>
  clear L3 L4 E2 G2 R2 HS
  obtain ⟨h5,h6,rfl,rfl,St⟩:=hcut
  have l1:=St.l1
  have l2:=St.l2
  have nx3:W.heap.size ∉ [g,h5]:=by simp only [mC,mN,oF]; omega
  have nx4:W.heap.size+1 ∉ [g,h5]:=by simp only [mC,mN,oF]; omega
  have nx6:h6 ∉ [g,h5]:=by simp only [mC,mN,oF]; omega
  obtain ⟨c0,c1,c2,c3,c4⟩:=cells5 St.bx
  go_upto_if 15 with fail
  go_cut [] (fun wx=>wD w W wx g A bs cap (m+22) x h5 h6)
  case first =>
   have GT:=tH HR.out.ts Av.out (X:=[g,h5]) (by intro k hk xw; simp only [mC,mN,oF] at hk; omega)
   have GU:=tH HR.out.os Dn.out (X:=[g,h5]) (by intro k hk xw; simp only [mC,mN,oF] at hk; omega)
   have IQ:=jZ GT
   have IR:=jZ GU
   clear GT GU
   by_cases h0:0 < x.t.length
   ·have h0' : (0:Int) < x.t.length:=oM
    obtain ⟨b,off,hA,hb,_⟩:=HR.out.ts.at_ h0
    have HA:=jZ hA
    clear hA
    obtain ⟨t1,t2,LV,_⟩:=St.tr
    go_wp2_with fail
    have H0:=jZ h0
    clear h0 h0'
    generalize decide (0 < x.t.length)=d15
    refine al (Dr w wc g A bs cap (m+2) 2 10 [g,h5] [bp.lies 9 h5 104 [O U t1,O U t2]]) (fun i w1 w2=>i ∉ [9]→w1.grownBy w2 (some g)) kZ kZ kZ (Dr.start St.env (fun p hp=>by simp only [List.mem_singleton] at hp; subst hp; exact ⟨iE,LV⟩)) ?_
    simp only [ax,Act.put,sA,gs0,gs1,Nat.zero_add,Nat.reduceAdd]
    refine aa _ vd0 ?_
    apply aa
    case h1 =>
     intro vs L9 w9 xl xj hB K9 xk
     have d0:=fe hB 0
     simp only [d0] at xk ⊢
     have q0:w9.cell? ⟨W.heap.size,0,none⟩=some (F (some ⟨b,off,none⟩) x.t.length x.tc):=by rw [← HA.out]; exact (xj.lies St.bx nx3).cell 0
     simp only [Act.put,sA,gs0,gs1] at xk
     go_simp
     exact xk _ _ rfl (dS xl xj) gR
    refine aa _ vd0 ?_
    refine aa _ vd0 ?_
    apply aa
    case h1 =>
     intro vs L9 w9 xl xj hB K9 xk
     have d3:=fe hB 3
     simp only [d3] at xk ⊢
     have q0:w9.cell? ⟨W.heap.size,0,none⟩=some (F (some ⟨b,off,none⟩) x.t.length x.tc):=by rw [← HA.out]; exact (xj.lies St.bx nx3).cell 0
     simp only [Act.put,sA,gs0,gs1] at xk
     go_simp
     exact xk _ _ rfl (dS xl xj) gR
    refine aa _ (vd1 4) ?_
    refine sm0 [] (fun v _=>∃ i:Nat,v=O U i∧i≤x.t.length - 1) (fun vs L9 w9 xl xj hB K9 xk=>?_) ?_
    next =>
     have d2:=fe hB 2
     have d5:=fe hB 5
     simp only [d2,d5] at xk ⊢
     simp only [Act.put,sA,gs0,gs1] at xk
     go_simp
     refine (dp xj.env x.t.length oM (by have:=xj.cnt; omega)).mono ?_
     rintro en w8 ⟨x8,rfl,zi,yN,xP⟩
     exact xk _ _ _ rfl ⟨_,rfl,zi⟩ (dC xl xj yN xP) (fun _=>xP)
    refine sm0 [] (fun v _=>∃ i:Nat,v=.pointer (some ⟨b,off+i * 2,none⟩)∧i < x.t.length) (fun vs L9 w9 xl xj hB K9 xk=>?_) ?_
    next =>
     have d1:=fe hB 1
     simp only [d1] at xk ⊢
     simp only [Act.put,sA,gs0,gs1] at xk
     obtain ⟨x6,e6,ex6⟩:=fs hB 6
     simp only [e6] at xk ⊢
     have JS:x6 < x.t.length:=by have:=H0.out; omega
     go_simp
     exact xk _ _ _ rfl ⟨x6,rfl,JS⟩ (dS xl xj) gR
    refine sm0 [] (fun v _=>∃ k c:Int,v=.agg #[O U k,O U c]∧Sm k∧Sm c) (fun vs L9 w9 xl xj hB K9 xk=>?_) ?_
    next =>
     simp only [Act.put,sA,gs0,gs1] at xk
     obtain ⟨i7,e7,ei7⟩:=fs hB 7
     simp only [e7] at xk ⊢
     have GV:=xj.reads St.rx.ts IQ.out
     obtain ⟨b9,off9,e0,hb9,hc9⟩:=GV.at_ H0.out
     have e9:b9=b∧off9=off:=by rw [HA.out] at e0; injection e0 with e0; injection e0 with q1 q2; exact ⟨q1.symm,q2.symm⟩
     clear e0 GV
     obtain ⟨rfl,rfl⟩:=e9
     have q0:w9.cell? ⟨b9,off9+i7 * 2,none⟩=some (O U (x.t[i7]).k):=by have h:=hc9 (i7 * 2+0) (O U (x.t[i7]).k) (by rw [fm ar.enc 2 ar.enc_len x.t i7 ei7 0 oM]; rfl); simpa [Nat.add_assoc] using h
     have q1:w9.cell? ⟨b9,off9+i7 * 2+1,none⟩=some (O U (x.t[i7]).c):=by have h:=hc9 (i7 * 2+1) (O U (x.t[i7]).c) (by rw [fm ar.enc 2 ar.enc_len x.t i7 ei7 1 oM]; rfl); simpa [Nat.add_assoc] using h
     go_simp
     exact xk _ _ _ rfl ⟨_,_,rfl,Lu.out.1 _ (List.getElem_mem ei7)⟩ (dS xl xj) gR
    refine sm [] (fun _ w9=>∃ k8 c8:Int,ai w9 h5 104 [O U k8,O U c8]∧Sm k8∧Sm c8) (fun vs L9 w9 xl xj hB K9 xk=>?_) ?_
    next =>
     simp only [Act.put] at xk
     obtain ⟨k8,c8,e8,eb8⟩:=fs hB 8
     simp only [e8] at xk ⊢
     have xv:ai w9 h5 104 [O U t1,O U t2]:=(xj.room (bp.lies 9 h5 104 [O U t1,O U t2]) sP).2 xl.self
     obtain ⟨y0,y1⟩:=cells2 xv
     obtain ⟨f0,f1⟩:=frz2 xv
     have xD:ai _ h5 104 [O U k8,O U c8]:=((xv.set 0 (O U k8)).set 1 (O U c8))
     have yO:=jZ (gw2 w9 h5 (O U k8) (O U c8))
     have xO:=jZ xD
     clear xD xv
     go_simp
     exact xk _ undef _ rfl ⟨k8,c8,xO.out,eb8⟩ (xj.wrote xl.self dD yO.out (fun b e=>by injection e with e; subst e; exact ⟨oM,oM,.inl sP⟩) (by intro p hp e; simp only [mC,mN,oF] at hp; first | (subst hp; exact .inl rfl) | (rcases hp with rfl | rfl <;> first | exact .inl rfl | exact absurd (Option.some.inj e) oM))) nq
    refine au fun vs Lq w9 xv xj hB=>?_
    have hS:=hB 9 _ rfl rfl dD
    clear hB xv
    obtain ⟨k8,c8,hS,BU⟩:=hS
    have JT:wD w W w9 g A bs cap (m+22) x h5 h6:=⟨xj.le,xj.lies St.bx nx3,xj.lies St.out nx4,⟨_,_,hS,BU⟩,by obtain ⟨a,b,c,h,hb⟩:=St.ou; exact ⟨a,b,c,xj.lies h nx6,hb⟩,⟨xj.reads St.rx.ts IQ.out,xj.reads St.rx.os IR.out⟩,dK St.gr xj (by intro k hk xw; simp only [mC,mN,oF] at hk; omega) St.env,l1,l2,St.lt⟩
    clear xj hS
    go_wp2_with fail
    go_meet
    case rel=>exact JT
   ·have h0' : ¬ (0:Int) < x.t.length:=oM
    go_wp2_with fail
    go_meet
    case rel=>exact St.mono oM
  case rest =>
   clear c0 c1 c2 c3 c4 St nx3 nx4 nx6
   have St:=hcut
   clear hcut
   have nx3:W.heap.size ∉ [g,h6]:=by simp only [mC,mN,oF]; omega
   have nx4:W.heap.size+1 ∉ [g,h6]:=by simp only [mC,mN,oF]; omega
   have nx6:h5 ∉ [g,h6]:=by simp only [mC,mN,oF]; omega
   obtain ⟨c0,c1,c2,c3,c4⟩:=cells5 St.bx
   go_upto_if 28 with fail
   go_cut [] (fun wx=>wD w W wx g A bs cap (m+42) x h5 h6)
   case first =>
    have GT:=tH HR.out.ts Av.out (X:=[g,h6]) (by intro k hk xw; simp only [mC,mN,oF] at hk; omega)
    have GU:=tH HR.out.os Dn.out (X:=[g,h6]) (by intro k hk xw; simp only [mC,mN,oF] at hk; omega)
    have IQ:=jZ GT
    have IR:=jZ GU
    clear GT GU
    by_cases h0:0 < x.o.length
    ·have h0' : (0:Int) < x.o.length:=oM
     obtain ⟨b,off,hA,hb,_⟩:=HR.out.os.at_ h0
     have HA:=jZ hA
     clear hA
     obtain ⟨t1,t2,t3,LV,_⟩:=St.ou
     go_wp2_with fail
     have H0:=jZ h0
     clear h0 h0'
     generalize decide (0 < x.o.length)=d15
     refine al (Dr w wc g A bs cap (m+22) 2 10 [g,h6] [bp.lies 9 h6 147 [O U t1,O U t2,O U t3]]) (fun i w1 w2=>i ∉ [9]→w1.grownBy w2 (some g)) kZ kZ kZ (Dr.start St.env (fun p hp=>by simp only [List.mem_singleton] at hp; subst hp; exact ⟨iE,LV⟩)) ?_
     simp only [ax,Act.put,sA,gs0,gs1,Nat.zero_add,Nat.reduceAdd]
     refine aa _ vd0 ?_
     apply aa
     case h1 =>
      intro vs L9 w9 xl xj hB K9 xk
      have d0:=fe hB 0
      simp only [d0] at xk ⊢
      have q0:w9.cell? ⟨W.heap.size,1,none⟩=some (F (some ⟨b,off,none⟩) x.o.length x.oc):=by rw [← HA.out]; exact (xj.lies St.bx nx3).cell 1
      simp only [Act.put,sA,gs0,gs1] at xk
      go_simp
      exact xk _ _ rfl (dS xl xj) gR
     refine aa _ vd0 ?_
     refine aa _ vd0 ?_
     apply aa
     case h1 =>
      intro vs L9 w9 xl xj hB K9 xk
      have d3:=fe hB 3
      simp only [d3] at xk ⊢
      have q0:w9.cell? ⟨W.heap.size,1,none⟩=some (F (some ⟨b,off,none⟩) x.o.length x.oc):=by rw [← HA.out]; exact (xj.lies St.bx nx3).cell 1
      simp only [Act.put,sA,gs0,gs1] at xk
      go_simp
      exact xk _ _ rfl (dS xl xj) gR
     refine aa _ (vd1 4) ?_
     refine sm0 [] (fun v _=>∃ i:Nat,v=O U i∧i≤x.o.length - 1) (fun vs L9 w9 xl xj hB K9 xk=>?_) ?_
     next =>
      have d2:=fe hB 2
      have d5:=fe hB 5
      simp only [d2,d5] at xk ⊢
      simp only [Act.put,sA,gs0,gs1] at xk
      go_simp
      refine (dp xj.env x.o.length oM (by have:=xj.cnt; omega)).mono ?_
      rintro en w8 ⟨x8,rfl,zi,yN,xP⟩
      exact xk _ _ _ rfl ⟨_,rfl,zi⟩ (dC xl xj yN xP) (fun _=>xP)
     refine sm0 [] (fun v _=>∃ i:Nat,v=.pointer (some ⟨b,off+i * 3,none⟩)∧i < x.o.length) (fun vs L9 w9 xl xj hB K9 xk=>?_) ?_
     next =>
      have d1:=fe hB 1
      simp only [d1] at xk ⊢
      simp only [Act.put,sA,gs0,gs1] at xk
      obtain ⟨x6,e6,ex6⟩:=fs hB 6
      simp only [e6] at xk ⊢
      have JS:x6 < x.o.length:=by have:=H0.out; omega
      go_simp
      exact xk _ _ _ rfl ⟨x6,rfl,JS⟩ (dS xl xj) gR
     refine sm0 [] (fun v _=>∃ k p c:Int,v=.agg #[O U k,O U p,O U c]∧Sm k∧Sm p∧Sm c) (fun vs L9 w9 xl xj hB K9 xk=>?_) ?_
     next =>
      simp only [Act.put,sA,gs0,gs1] at xk
      obtain ⟨i7,e7,ei7⟩:=fs hB 7
      simp only [e7] at xk ⊢
      have GV:=xj.reads St.rx.os IR.out
      obtain ⟨b9,off9,e0,hb9,hc9⟩:=GV.at_ H0.out
      have e9:b9=b∧off9=off:=by rw [HA.out] at e0; injection e0 with e0; injection e0 with q1 q2; exact ⟨q1.symm,q2.symm⟩
      clear e0 GV
      obtain ⟨rfl,rfl⟩:=e9
      have q0:w9.cell? ⟨b9,off9+i7 * 3,none⟩=some (O U (x.o[i7]).k):=by have h:=hc9 (i7 * 3+0) (O U (x.o[i7]).k) (by rw [fm ae.enc 3 ae.enc_len x.o i7 ei7 0 oM]; rfl); simpa [Nat.add_assoc] using h
      have q1:w9.cell? ⟨b9,off9+i7 * 3+1,none⟩=some (O U (x.o[i7]).p):=by have h:=hc9 (i7 * 3+1) (O U (x.o[i7]).p) (by rw [fm ae.enc 3 ae.enc_len x.o i7 ei7 1 oM]; rfl); simpa [Nat.add_assoc] using h
      have q2:w9.cell? ⟨b9,off9+i7 * 3+2,none⟩=some (O U (x.o[i7]).c):=by have h:=hc9 (i7 * 3+2) (O U (x.o[i7]).c) (by rw [fm ae.enc 3 ae.enc_len x.o i7 ei7 2 oM]; rfl); simpa [Nat.add_assoc] using h
      go_simp
      exact xk _ _ _ rfl ⟨_,_,_,rfl,Lu.out.2 _ (List.getElem_mem ei7)⟩ (dS xl xj) gR
     refine sm [] (fun _ w9=>∃ k8 p8 c8:Int,ai w9 h6 147 [O U k8,O U p8,O U c8]∧Sm k8∧Sm p8∧Sm c8) (fun vs L9 w9 xl xj hB K9 xk=>?_) ?_
     next =>
      simp only [Act.put] at xk
      obtain ⟨k8,p8,c8,e8,eb8⟩:=fs hB 8
      simp only [e8] at xk ⊢
      have xv:ai w9 h6 147 [O U t1,O U t2,O U t3]:=(xj.room (bp.lies 9 h6 147 [O U t1,O U t2,O U t3]) sP).2 xl.self
      obtain ⟨y0,y1,y2⟩:=cells3 xv
      obtain ⟨f0,f1,f2⟩:=frz3 xv
      have xD:ai _ h6 147 [O U k8,O U p8,O U c8]:=(((xv.set 0 (O U k8)).set 1 (O U p8)).set 2 (O U c8))
      have yO:=jZ (gw3 w9 h6 (O U k8) (O U p8) (O U c8))
      have xO:=jZ xD
      clear xD xv
      go_simp
      exact xk _ undef _ rfl ⟨k8,p8,c8,xO.out,eb8⟩ (xj.wrote xl.self dD yO.out (fun b e=>by injection e with e; subst e; exact ⟨oM,oM,.inl sP⟩) (by intro p hp e; simp only [mC,mN,oF] at hp; first | (subst hp; exact .inl rfl) | (rcases hp with rfl | rfl <;> first | exact .inl rfl | exact absurd (Option.some.inj e) oM))) nq
     refine au fun vs Lq w9 xv xj hB=>?_
     have hS:=hB 9 _ rfl rfl dD
     clear hB xv
     obtain ⟨k8,p8,c8,hS,BU⟩:=hS
     have JT:wD w W w9 g A bs cap (m+42) x h5 h6:=⟨xj.le,xj.lies St.bx nx3,xj.lies St.out nx4,by obtain ⟨a,b,h,hb⟩:=St.tr; exact ⟨a,b,xj.lies h nx6,hb⟩,⟨_,_,_,hS,BU⟩,⟨xj.reads St.rx.ts IQ.out,xj.reads St.rx.os IR.out⟩,dK St.gr xj (by intro k hk xw; simp only [mC,mN,oF] at hk; omega) St.env,l1,l2,St.lt⟩
     clear xj hS
     go_wp2_with fail
     go_meet
     case rel=>exact JT
    ·have h0' : ¬ (0:Int) < x.o.length:=oM
     go_wp2_with fail
     go_meet
     case rel=>exact St.mono oM
   case rest =>
    clear c0 c1 c2 c3 c4 St nx3 nx4 nx6
    have St:=hcut
    clear hcut
    have nx3:W.heap.size ∉ [g,W.heap.size+1]:=by simp only [mC,mN,oF]; omega
    have nx5:h5 ∉ [g,W.heap.size+1]:=by simp only [mC,mN,oF]; omega
    have nx6:h6 ∉ [g,W.heap.size+1]:=by simp only [mC,mN,oF]; omega
    go_wp2_with fail
    refine (jC St.env 40 oM oM).mono ?_
    rintro e W3 ⟨yes,rfl,E3,gr3⟩
    have ng:Hid (∀ k,k ≠ g→some k ≠ some g):=fun k hk e=>by injection e with e; exact hk e
    have L3:=St.bx.kept gr3 (ng.out _ oM)
    have L4:=St.out.kept gr3 (ng.out _ oM)
    obtain ⟨ta,tb,L5,sm1,sm2⟩:=St.tr
    obtain ⟨oa,ob,oc',L6,sm3,sm4,sm5⟩:=St.ou
    have bd1:Bd ta:=qX sm1
    have bd2:Bd tb:=qX sm2
    have bd3:Bd oa:=qX sm3
    have bd4:Bd ob:=qX sm4
    have bd5:Bd oc':=qX sm5
    have bd6:Bd (tb+1):=vr sm2
    have bd7:Bd (oc'+1):=vr sm5
    have Og:IntKind.i64.wrap (tb+1)=tb+1:=tT sm2
    have Lv:IntKind.i64.wrap (oc'+1)=oc'+1:=tT sm5
    clear sm1 sm2 sm3 sm4 sm5
    have L5:=L5.kept gr3 (ng.out _ oM)
    have L6:=L6.kept gr3 (ng.out _ oM)
    have G:=aA St.gr gr3
    clear St gr3
    cases yes
    ·go_wp2_with fail
     refine (dp E3 14 oM oM).mono ?_
     rintro e W4 ⟨i,rfl,hi,E4,gr4⟩
     have L3:=L3.kept gr4 (ng.out _ oM)
     have L4:=L4.kept gr4 (ng.out _ oM)
     have L5:=L5.kept gr4 (ng.out _ oM)
     have L6:=L6.kept gr4 (ng.out _ oM)
     have G:=aA G gr4
     clear gr4 E3
     have hi' : (i=0 ∨ i=1 ∨ i=2) ∨ (i=3 ∨ i=4 ∨ i=5 ∨ i=6) ∨ (i=7 ∨ i=8) ∨ i=9 ∨ i=10 ∨ i=11 ∨ (i=12 ∨ i=13):=oM
     clear hi
     rcases hi' with hi | hi | hi | hi | hi | hi | hi
     ·rcases hi with rfl | rfl | rfl
      all_goals
       go_wp2_with fail
       refine (kA E4 [1,7,20,33,98,99,100] 7 rfl _ rfl oM oM oM).mono ?_
       rintro e W5 ⟨z1,rfl,hz,E5,gr⟩
       have bz1:=vu hz dD
       have L4:=L4.kept gr (ng.out _ oM)
       have G:=aA G gr
       clear gr hz E4
       go_wp2_with fail
       refine (kA E5 [1,5,20,9999,10000] 5 rfl _ rfl oM oM oM).mono ?_
       rintro e W6 ⟨z2,rfl,hz,E6,gr⟩
       have bz2:=vu hz dD
       have L4:=L4.kept gr (ng.out _ oM)
       have G:=aA G gr
       clear gr hz E5
       obtain ⟨y0,y1,y2,y3⟩:=cells4 L4
       obtain ⟨f0,f1,f2,f3⟩:=frz4 L4
       have yO:=(gw4 W6 (W.heap.size+1) (O U 1) (O U z1) (O U 0) (O U z2))
       have Bp:=E6.wrote yO oM oM
       have Bq:=bf G yO oM
       have CB:=((((L4.set 0 (O U 1)).set 1 (O U z1)).set 2 (O U 0)).set 3 (O U z2))
       simp only [List.set_cons_zero,List.set_cons_succ] at CB
       obtain ⟨W8,yo⟩ : ∃ W8,((((W6.setCell ⟨(W.heap.size+1),0,none⟩ (O U 1)).setCell ⟨(W.heap.size+1),1,none⟩ (O U z1)).setCell ⟨(W.heap.size+1),2,none⟩ (O U 0)).setCell ⟨(W.heap.size+1),3,none⟩ (O U z2))=W8:=⟨_,rfl⟩
       rw [yo] at Bp Bq CB
       have Cr:=jZ yo
       have BV:=jZ CB
       clear yO L4 G yo CB
       repeat (first | go_values | go_skip | go_guarded | go_step | go_upon | simp only [])
       rw [Cr.out]
       have CB:=BV.out
       obtain ⟨x0,x1,x2,x3⟩:=cells4 CB
       refine bodyPost_ret (v:=.agg #[O U 1,O U z1,O U 0,O U z2]) (by simp [results,Tryz.results111,go_sem,x0,x1,x2,x3]) rfl ?_
       exact ⟨⟨1,z1,0,z2⟩,rfl,wC (aD) (aD) (aD) (aD),Bp.mono oM,Bq⟩
     ·rcases hi with rfl | rfl | rfl | rfl
      all_goals
       go_wp2_with fail
       refine al (Dr w W4 g A bs cap (m+42+2+2) 2 16 [g,(W.heap.size+1)] [bp.lies 15 (W.heap.size+1) 112 [O U 0,O U 0,O U 0,O U 0]]) (fun i w1 w2=>i ∉ [15]→w1.grownBy w2 (some g)) kZ kZ kZ (Dr.start E4 (fun p hp=>by simp only [List.mem_singleton] at hp; subst hp; exact ⟨ng.out _ oM,L4⟩)) ?_
       simp only [ax,Act.put,sA,gs0,gs1,Nat.zero_add,Nat.reduceAdd]
       refine aa _ vd0 ?_
       refine aa _ (vd1d1 0 L5 nx5 0) ?_
       refine aa _ vd0 ?_
       refine af [15] (fun v w9=>∃ (b:Nat) (l:List Int),v=F (some ⟨b,0,none⟩) 5 5∧l.length=5∧ai w9 b 3 (bj l)∧b ≠ g∧∀ z ∈ l,Bd z) ?_ (fun vs L9 w9 xl xj hB K9 xk=>?_) ?_
       next =>
        intro i9 yg hb9 ha9 v w1 w2 hv xJ
        have hb:=xJ (fun hm=>by
         simp only [mC,mN,oF] at hm hb9
         subst hm
         ·exact hb9 sP)
        obtain ⟨b,l,q1,q2,q3,q4,q5⟩:=hv
        exact ⟨b,l,q1,q2,q3.kept hb (by intro e; injection e with e; exact q4 e),q4,q5⟩
       next =>
        simp only [Act.put,sA,gs0,gs1] at xk
        go_simp
        exact xk _ _ _ rfl ⟨w9.heap.size,[5,17,40,999,1000],rfl,rfl,ai.new w9 3 _,by have:=xj.env.lt; omega,by intro z hz; simp only [mC,mN,oF] at hz; rcases hz with rfl | rfl | rfl | rfl | rfl <;> (first | assumption | exact ⟨dD,dD⟩)⟩ (xj.alloc xl.self dD _) (fun _=>World.grownBy_alloc _ _ _)
       refine sm0 [] (fun v _=>∃ z:Int,v=O U z∧Bd z) (fun vs L9 w9 xl xj hB K9 xk=>?_) ?_
       next =>
        have d2:=fe hB 2
        simp only [d2] at xk ⊢
        simp only [Act.put,sA,gs0,gs1] at xk
        obtain ⟨b3,l3,e3,el3,eL3,en3,eb3⟩:=fs hB 3
        simp only [e3] at xk ⊢
        go_simp
        refine (di xj.env b3 5 l3 el3 eL3 en3 oM oM (by have:=xj.cnt; omega)).mono ?_
        rintro en w8 ⟨x8,rfl,zi,yN,xP⟩
        exact xk _ _ _ rfl ⟨_,rfl,eb3 _ zi⟩ (dC xl xj yN xP) (fun _=>xP)
       refine aa _ vd0 ?_
       refine aa _ vd0 ?_
       refine aa _ (vd1d1 6 L5 nx5 1) ?_
       refine sm0 [] (fun v _=>∃ z:Int,v=O U z∧Bd z) (fun vs L9 w9 xl xj hB K9 xk=>?_) ?_
       next =>
        have d7:=fe hB 7
        simp only [d7] at xk ⊢
        simp only [Act.put,sA,gs0,gs1] at xk
        go_simp
        refine (qh _ _ _).mono ?_
        rintro en w8 ⟨⟨x8,rfl,zi⟩,xm⟩
        exact xk _ _ _ rfl ⟨_,rfl,by rcases zi with rfl | rfl <;> (first | assumption | exact ⟨dD,dD⟩)⟩ (xj.below xl.self dD xm) (fun _=>bJ xm _)
       refine aa _ vd0 ?_
       refine aa _ (vd1d1 9 L5 nx5 1) ?_
       refine sm0 [] (fun v _=>∃ z:Int,v=O U z∧Bd z) (fun vs L9 w9 xl xj hB K9 xk=>?_) ?_
       next =>
        have d10:=fe hB 10
        simp only [d10] at xk ⊢
        simp only [Act.put,sA,gs0,gs1] at xk
        go_simp
        exact xk _ _ _ rfl ⟨_,rfl,aD⟩ (dS xl xj) gR
       refine af [15] (fun v w9=>∃ (b:Nat) (l:List Int),v=F (some ⟨b,0,none⟩) 4 4∧l.length=4∧ai w9 b 3 (bj l)∧b ≠ g∧∀ z ∈ l,Bd z) ?_ (fun vs L9 w9 xl xj hB K9 xk=>?_) ?_
       next =>
        intro i9 yg hb9 ha9 v w1 w2 hv xJ
        have hb:=xJ (fun hm=>by
         simp only [mC,mN,oF] at hm hb9
         subst hm
         ·exact hb9 sP)
        obtain ⟨b,l,q1,q2,q3,q4,q5⟩:=hv
        exact ⟨b,l,q1,q2,q3.kept hb (by intro e; injection e with e; exact q4 e),q4,q5⟩
       next =>
        simp only [Act.put,sA,gs0,gs1] at xk
        obtain ⟨z8,e8,zb8⟩:=fs hB 8
        obtain ⟨z11,e11,zb11⟩:=fs hB 11
        simp only [e8,e11] at xk ⊢
        go_simp
        exact xk _ _ _ rfl ⟨w9.heap.size,[1,2,_,_],rfl,rfl,ai.new w9 3 _,by have:=xj.env.lt; omega,by intro z hz; simp only [mC,mN,oF] at hz; rcases hz with rfl | rfl | rfl | rfl <;> (first | assumption | exact ⟨dD,dD⟩)⟩ (xj.alloc xl.self dD _) (fun _=>World.grownBy_alloc _ _ _)
       refine sm0 [] (fun v _=>∃ z:Int,v=O U z∧Bd z) (fun vs L9 w9 xl xj hB K9 xk=>?_) ?_
       next =>
        have d5:=fe hB 5
        simp only [d5] at xk ⊢
        simp only [Act.put,sA,gs0,gs1] at xk
        obtain ⟨b12,l12,e12,el12,eL12,en12,eb12⟩:=fs hB 12
        simp only [e12] at xk ⊢
        go_simp
        refine (di xj.env b12 4 l12 el12 eL12 en12 oM oM (by have:=xj.cnt; omega)).mono ?_
        rintro en w8 ⟨x8,rfl,zi,yN,xP⟩
        exact xk _ _ _ rfl ⟨_,rfl,eb12 _ zi⟩ (dC xl xj yN xP) (fun _=>xP)
       refine sm0 [] (fun v _=>∃ s:de,v=.agg #[O U s.kind,O U s.stamp,O U s.person,O U s.value]∧tU s) (fun vs L9 w9 xl xj hB K9 xk=>?_) ?_
       next =>
        have d1:=fe hB 1
        simp only [d1] at xk ⊢
        simp only [Act.put,sA,gs0,gs1] at xk
        obtain ⟨z4,e4,zb4⟩:=fs hB 4
        obtain ⟨z13,e13,zb13⟩:=fs hB 13
        simp only [e4,e13] at xk ⊢
        go_simp
        exact xk _ _ _ rfl ⟨⟨_,_,_,_⟩,rfl,wC (aD) (aD) (aD) (aD)⟩ (dS xl xj) gR
       refine sm [] (fun _ w9=>∃ s:de,ai w9 (W.heap.size+1) 112 s.enc∧tU s) (fun vs L9 w9 xl xj hB K9 xk=>?_) ?_
       next =>
        simp only [Act.put] at xk
        obtain ⟨s14,e14,sb14⟩:=fs hB 14
        simp only [e14] at xk ⊢
        have xv:ai w9 (W.heap.size+1) 112 [O U 0,O U 0,O U 0,O U 0]:=(xj.room (bp.lies 15 (W.heap.size+1) 112 [O U 0,O U 0,O U 0,O U 0]) sP).2 xl.self
        obtain ⟨y0,y1,y2,y3⟩:=cells4 xv
        obtain ⟨f0,f1,f2,f3⟩:=frz4 xv
        have xD:ai _ (W.heap.size+1) 112 [O U s14.kind,O U s14.stamp,O U s14.person,O U s14.value]:=((((xv.set 0 (O U s14.kind)).set 1 (O U s14.stamp)).set 2 (O U s14.person)).set 3 (O U s14.value))
        have yO:=jZ (gw4 w9 (W.heap.size+1) (O U s14.kind) (O U s14.stamp) (O U s14.person) (O U s14.value))
        have xO:=jZ xD
        clear xD xv
        go_simp
        exact xk _ undef _ rfl ⟨s14,xO.out,sb14⟩ (xj.wrote xl.self dD yO.out (fun b e=>by injection e with e; subst e; exact ⟨oM,oM,.inl sP⟩) (by intro p hp e; simp only [mC,mN,oF] at hp; first | (subst hp; exact .inl rfl) | (rcases hp with rfl | rfl <;> first | exact .inl rfl | exact absurd (Option.some.inj e) oM))) nq
       refine au fun vs Lq w9 xv xj hB=>?_
       obtain ⟨s,hS,BU⟩:=hB 15 _ rfl rfl dD
       have Bp:=xj.le
       have Bq:=dK G xj (by intro k hk xw; simp only [mC,mN,oF] at hk; omega) E4
       clear hB xv xj
       have hS:ai w9 (W.heap.size+1) 112 [O U s.kind,O U s.stamp,O U s.person,O U s.value]:=hS
       obtain ⟨y0,y1,y2,y3⟩:=cells4 hS
       clear hS
       repeat (first | go_step)
       refine bodyPost_ret (v:=.agg #[O U s.kind,O U s.stamp,O U s.person,O U s.value]) (by simp [results,Tryz.results111,go_sem,y0,y1,y2,y3]) rfl ?_
       exact ⟨s,rfl,BU,Bp.mono oM,Bq⟩
     ·rcases hi with rfl | rfl
      all_goals
       go_wp2_with fail
       refine al (Dr w W4 g A bs cap (m+42+2+2) 2 14 [g,(W.heap.size+1)] [bp.lies 13 (W.heap.size+1) 112 [O U 0,O U 0,O U 0,O U 0]]) (fun i w1 w2=>i ∉ [13]→w1.grownBy w2 (some g)) kZ kZ kZ (Dr.start E4 (fun p hp=>by simp only [List.mem_singleton] at hp; subst hp; exact ⟨ng.out _ oM,L4⟩)) ?_
       simp only [ax,Act.put,sA,gs0,gs1,Nat.zero_add,Nat.reduceAdd]
       refine aa _ vd0 ?_
       refine aa _ (vd1d1 0 L6 nx6 0) ?_
       refine aa _ vd0 ?_
       refine aa _ (vd1d1 2 L6 nx6 1) ?_
       refine aa _ vd0 ?_
       refine aa _ vd0 ?_
       refine aa _ (vd1d1 5 L6 nx6 2) ?_
       refine aa _ vd0 ?_
       refine aa _ (vd1d1 7 L6 nx6 2) ?_
       refine sm0 [] (fun v _=>∃ z:Int,v=O U z∧Bd z) (fun vs L9 w9 xl xj hB K9 xk=>?_) ?_
       next =>
        have d8:=fe hB 8
        simp only [d8] at xk ⊢
        simp only [Act.put,sA,gs0,gs1] at xk
        go_simp
        exact xk _ _ _ rfl ⟨_,rfl,aD⟩ (dS xl xj) gR
       refine af [13] (fun v w9=>∃ (b:Nat) (l:List Int),v=F (some ⟨b,0,none⟩) 3 3∧l.length=3∧ai w9 b 3 (bj l)∧b ≠ g∧∀ z ∈ l,Bd z) ?_ (fun vs L9 w9 xl xj hB K9 xk=>?_) ?_
       next =>
        intro i9 yg hb9 ha9 v w1 w2 hv xJ
        have hb:=xJ (fun hm=>by
         simp only [mC,mN,oF] at hm hb9
         subst hm
         ·exact hb9 sP)
        obtain ⟨b,l,q1,q2,q3,q4,q5⟩:=hv
        exact ⟨b,l,q1,q2,q3.kept hb (by intro e; injection e with e; exact q4 e),q4,q5⟩
       next =>
        have d6:=fe hB 6
        simp only [d6] at xk ⊢
        simp only [Act.put,sA,gs0,gs1] at xk
        obtain ⟨z9,e9,zb9⟩:=fs hB 9
        simp only [e9] at xk ⊢
        go_simp
        exact xk _ _ _ rfl ⟨w9.heap.size,[1,_,_],rfl,rfl,ai.new w9 3 _,by have:=xj.env.lt; omega,by intro z hz; simp only [mC,mN,oF] at hz; rcases hz with rfl | rfl | rfl <;> (first | assumption | exact ⟨dD,dD⟩)⟩ (xj.alloc xl.self dD _) (fun _=>World.grownBy_alloc _ _ _)
       refine sm0 [] (fun v _=>∃ z:Int,v=O U z∧Bd z) (fun vs L9 w9 xl xj hB K9 xk=>?_) ?_
       next =>
        have d4:=fe hB 4
        simp only [d4] at xk ⊢
        simp only [Act.put,sA,gs0,gs1] at xk
        obtain ⟨b10,l10,e10,el10,eL10,en10,eb10⟩:=fs hB 10
        simp only [e10] at xk ⊢
        go_simp
        refine (di xj.env b10 3 l10 el10 eL10 en10 oM oM (by have:=xj.cnt; omega)).mono ?_
        rintro en w8 ⟨x8,rfl,zi,yN,xP⟩
        exact xk _ _ _ rfl ⟨_,rfl,eb10 _ zi⟩ (dC xl xj yN xP) (fun _=>xP)
       refine sm0 [] (fun v _=>∃ s:de,v=.agg #[O U s.kind,O U s.stamp,O U s.person,O U s.value]∧tU s) (fun vs L9 w9 xl xj hB K9 xk=>?_) ?_
       next =>
        have d1:=fe hB 1
        have d3:=fe hB 3
        simp only [d1,d3] at xk ⊢
        simp only [Act.put,sA,gs0,gs1] at xk
        obtain ⟨z11,e11,zb11⟩:=fs hB 11
        simp only [e11] at xk ⊢
        go_simp
        exact xk _ _ _ rfl ⟨⟨_,_,_,_⟩,rfl,wC (aD) (aD) (aD) (aD)⟩ (dS xl xj) gR
       refine sm [] (fun _ w9=>∃ s:de,ai w9 (W.heap.size+1) 112 s.enc∧tU s) (fun vs L9 w9 xl xj hB K9 xk=>?_) ?_
       next =>
        simp only [Act.put] at xk
        obtain ⟨s12,e12,sb12⟩:=fs hB 12
        simp only [e12] at xk ⊢
        have xv:ai w9 (W.heap.size+1) 112 [O U 0,O U 0,O U 0,O U 0]:=(xj.room (bp.lies 13 (W.heap.size+1) 112 [O U 0,O U 0,O U 0,O U 0]) sP).2 xl.self
        obtain ⟨y0,y1,y2,y3⟩:=cells4 xv
        obtain ⟨f0,f1,f2,f3⟩:=frz4 xv
        have xD:ai _ (W.heap.size+1) 112 [O U s12.kind,O U s12.stamp,O U s12.person,O U s12.value]:=((((xv.set 0 (O U s12.kind)).set 1 (O U s12.stamp)).set 2 (O U s12.person)).set 3 (O U s12.value))
        have yO:=jZ (gw4 w9 (W.heap.size+1) (O U s12.kind) (O U s12.stamp) (O U s12.person) (O U s12.value))
        have xO:=jZ xD
        clear xD xv
        go_simp
        exact xk _ undef _ rfl ⟨s12,xO.out,sb12⟩ (xj.wrote xl.self dD yO.out (fun b e=>by injection e with e; subst e; exact ⟨oM,oM,.inl sP⟩) (by intro p hp e; simp only [mC,mN,oF] at hp; first | (subst hp; exact .inl rfl) | (rcases hp with rfl | rfl <;> first | exact .inl rfl | exact absurd (Option.some.inj e) oM))) nq
       refine au fun vs Lq w9 xv xj hB=>?_
       obtain ⟨s,hS,BU⟩:=hB 13 _ rfl rfl dD
       have Bp:=xj.le
       have Bq:=dK G xj (by intro k hk xw; simp only [mC,mN,oF] at hk; omega) E4
       clear hB xv xj
       have hS:ai w9 (W.heap.size+1) 112 [O U s.kind,O U s.stamp,O U s.person,O U s.value]:=hS
       obtain ⟨y0,y1,y2,y3⟩:=cells4 hS
       clear hS
       repeat (first | go_step)
       refine bodyPost_ret (v:=.agg #[O U s.kind,O U s.stamp,O U s.person,O U s.value]) (by simp [results,Tryz.results111,go_sem,y0,y1,y2,y3]) rfl ?_
       exact ⟨s,rfl,BU,Bp.mono oM,Bq⟩
     ·subst hi
      go_wp2_with fail
      refine al (Dr w W4 g A bs cap (m+42+2+2) 2 14 [g,(W.heap.size+1)] [bp.lies 13 (W.heap.size+1) 112 [O U 0,O U 0,O U 0,O U 0]]) (fun i w1 w2=>i ∉ [13]→w1.grownBy w2 (some g)) kZ kZ kZ (Dr.start E4 (fun p hp=>by simp only [List.mem_singleton] at hp; subst hp; exact ⟨ng.out _ oM,L4⟩)) ?_
      simp only [ax,Act.put,sA,gs0,gs1,Nat.zero_add,Nat.reduceAdd]
      refine aa _ vd0 ?_
      refine aa _ (vd1d1 0 L6 nx6 0) ?_
      refine aa _ vd0 ?_
      refine aa _ (vd1d1 2 L6 nx6 1) ?_
      refine aa _ vd0 ?_
      refine aa _ vd0 ?_
      refine aa _ (vd1d1 5 L6 nx6 2) ?_
      refine aa _ vd0 ?_
      refine aa _ (vd1d1 7 L6 nx6 2) ?_
      refine sm0 [] (fun v _=>∃ z:Int,v=O U z∧Bd z) (fun vs L9 w9 xl xj hB K9 xk=>?_) ?_
      next =>
       have d8:=fe hB 8
       simp only [d8] at xk ⊢
       simp only [Act.put,sA,gs0,gs1] at xk
       go_simp
       exact xk _ _ _ rfl ⟨_,rfl,aD⟩ (dS xl xj) gR
      refine af [13] (fun v w9=>∃ (b:Nat) (l:List Int),v=F (some ⟨b,0,none⟩) 3 3∧l.length=3∧ai w9 b 3 (bj l)∧b ≠ g∧∀ z ∈ l,Bd z) ?_ (fun vs L9 w9 xl xj hB K9 xk=>?_) ?_
      next =>
       intro i9 yg hb9 ha9 v w1 w2 hv xJ
       have hb:=xJ (fun hm=>by
        simp only [mC,mN,oF] at hm hb9
        subst hm
        ·exact hb9 sP)
       obtain ⟨b,l,q1,q2,q3,q4,q5⟩:=hv
       exact ⟨b,l,q1,q2,q3.kept hb (by intro e; injection e with e; exact q4 e),q4,q5⟩
      next =>
       have d6:=fe hB 6
       simp only [d6] at xk ⊢
       simp only [Act.put,sA,gs0,gs1] at xk
       obtain ⟨z9,e9,zb9⟩:=fs hB 9
       simp only [e9] at xk ⊢
       go_simp
       exact xk _ _ _ rfl ⟨w9.heap.size,[1,_,_],rfl,rfl,ai.new w9 3 _,by have:=xj.env.lt; omega,by intro z hz; simp only [mC,mN,oF] at hz; rcases hz with rfl | rfl | rfl <;> (first | assumption | exact ⟨dD,dD⟩)⟩ (xj.alloc xl.self dD _) (fun _=>World.grownBy_alloc _ _ _)
      refine sm0 [] (fun v _=>∃ z:Int,v=O U z∧Bd z) (fun vs L9 w9 xl xj hB K9 xk=>?_) ?_
      next =>
       have d4:=fe hB 4
       simp only [d4] at xk ⊢
       simp only [Act.put,sA,gs0,gs1] at xk
       obtain ⟨b10,l10,e10,el10,eL10,en10,eb10⟩:=fs hB 10
       simp only [e10] at xk ⊢
       go_simp
       refine (di xj.env b10 3 l10 el10 eL10 en10 oM oM (by have:=xj.cnt; omega)).mono ?_
       rintro en w8 ⟨x8,rfl,zi,yN,xP⟩
       exact xk _ _ _ rfl ⟨_,rfl,eb10 _ zi⟩ (dC xl xj yN xP) (fun _=>xP)
      refine sm0 [] (fun v _=>∃ s:de,v=.agg #[O U s.kind,O U s.stamp,O U s.person,O U s.value]∧tU s) (fun vs L9 w9 xl xj hB K9 xk=>?_) ?_
      next =>
       have d1:=fe hB 1
       have d3:=fe hB 3
       simp only [d1,d3] at xk ⊢
       simp only [Act.put,sA,gs0,gs1] at xk
       obtain ⟨z11,e11,zb11⟩:=fs hB 11
       simp only [e11] at xk ⊢
       go_simp
       exact xk _ _ _ rfl ⟨⟨_,_,_,_⟩,rfl,wC (aD) (aD) (aD) (aD)⟩ (dS xl xj) gR
      refine sm [] (fun _ w9=>∃ s:de,ai w9 (W.heap.size+1) 112 s.enc∧tU s) (fun vs L9 w9 xl xj hB K9 xk=>?_) ?_
      next =>
       simp only [Act.put] at xk
       obtain ⟨s12,e12,sb12⟩:=fs hB 12
       simp only [e12] at xk ⊢
       have xv:ai w9 (W.heap.size+1) 112 [O U 0,O U 0,O U 0,O U 0]:=(xj.room (bp.lies 13 (W.heap.size+1) 112 [O U 0,O U 0,O U 0,O U 0]) sP).2 xl.self
       obtain ⟨y0,y1,y2,y3⟩:=cells4 xv
       obtain ⟨f0,f1,f2,f3⟩:=frz4 xv
       have xD:ai _ (W.heap.size+1) 112 [O U s12.kind,O U s12.stamp,O U s12.person,O U s12.value]:=((((xv.set 0 (O U s12.kind)).set 1 (O U s12.stamp)).set 2 (O U s12.person)).set 3 (O U s12.value))
       have yO:=jZ (gw4 w9 (W.heap.size+1) (O U s12.kind) (O U s12.stamp) (O U s12.person) (O U s12.value))
       have xO:=jZ xD
       clear xD xv
       go_simp
       exact xk _ undef _ rfl ⟨s12,xO.out,sb12⟩ (xj.wrote xl.self dD yO.out (fun b e=>by injection e with e; subst e; exact ⟨oM,oM,.inl sP⟩) (by intro p hp e; simp only [mC,mN,oF] at hp; first | (subst hp; exact .inl rfl) | (rcases hp with rfl | rfl <;> first | exact .inl rfl | exact absurd (Option.some.inj e) oM))) nq
      refine au fun vs Lq w9 xv xj hB=>?_
      obtain ⟨s,hS,BU⟩:=hB 13 _ rfl rfl dD
      have Bp:=xj.le
      have Bq:=dK G xj (by intro k hk xw; simp only [mC,mN,oF] at hk; omega) E4
      clear hB xv xj
      have hS:ai w9 (W.heap.size+1) 112 [O U s.kind,O U s.stamp,O U s.person,O U s.value]:=hS
      obtain ⟨y0,y1,y2,y3⟩:=cells4 hS
      clear hS
      repeat (first | go_step)
      refine bodyPost_ret (v:=.agg #[O U s.kind,O U s.stamp,O U s.person,O U s.value]) (by simp [results,Tryz.results111,go_sem,y0,y1,y2,y3]) rfl ?_
      exact ⟨s,rfl,BU,Bp.mono oM,Bq⟩
     ·subst hi
      go_wp2_with fail
      refine al (Dr w W4 g A bs cap (m+42+2+2) 2 13 [g,(W.heap.size+1)] [bp.lies 12 (W.heap.size+1) 112 [O U 0,O U 0,O U 0,O U 0]]) (fun i w1 w2=>i ∉ [12]→w1.grownBy w2 (some g)) kZ kZ kZ (Dr.start E4 (fun p hp=>by simp only [List.mem_singleton] at hp; subst hp; exact ⟨ng.out _ oM,L4⟩)) ?_
      simp only [ax,Act.put,sA,gs0,gs1,Nat.zero_add,Nat.reduceAdd]
      refine aa _ vd0 ?_
      refine aa _ (vd1d1 0 L5 nx5 0) ?_
      refine aa _ vd0 ?_
      refine aa _ vd0 ?_
      refine aa _ (vd1d1 3 L5 nx5 1) ?_
      refine sm0 [] (fun v _=>∃ z:Int,v=O U z∧Bd z) (fun vs L9 w9 xl xj hB K9 xk=>?_) ?_
      next =>
       have d4:=fe hB 4
       simp only [d4] at xk ⊢
       simp only [Act.put,sA,gs0,gs1] at xk
       go_simp
       refine (qh _ _ _).mono ?_
       rintro en w8 ⟨⟨x8,rfl,zi⟩,xm⟩
       exact xk _ _ _ rfl ⟨_,rfl,by rcases zi with rfl | rfl <;> (first | assumption | exact ⟨dD,dD⟩)⟩ (xj.below xl.self dD xm) (fun _=>bJ xm _)
      refine aa _ vd0 ?_
      refine aa _ (vd1d1 6 L5 nx5 1) ?_
      refine sm0 [] (fun v _=>∃ z:Int,v=O U z∧Bd z) (fun vs L9 w9 xl xj hB K9 xk=>?_) ?_
      next =>
       have d7:=fe hB 7
       simp only [d7] at xk ⊢
       simp only [Act.put,sA,gs0,gs1] at xk
       go_simp
       exact xk _ _ _ rfl ⟨_,rfl,aD⟩ (dS xl xj) gR
      refine af [12] (fun v w9=>∃ (b:Nat) (l:List Int),v=F (some ⟨b,0,none⟩) 3 3∧l.length=3∧ai w9 b 3 (bj l)∧b ≠ g∧∀ z ∈ l,Bd z) ?_ (fun vs L9 w9 xl xj hB K9 xk=>?_) ?_
      next =>
       intro i9 yg hb9 ha9 v w1 w2 hv xJ
       have hb:=xJ (fun hm=>by
        simp only [mC,mN,oF] at hm hb9
        subst hm
        ·exact hb9 sP)
       obtain ⟨b,l,q1,q2,q3,q4,q5⟩:=hv
       exact ⟨b,l,q1,q2,q3.kept hb (by intro e; injection e with e; exact q4 e),q4,q5⟩
      next =>
       simp only [Act.put,sA,gs0,gs1] at xk
       obtain ⟨z5,e5,zb5⟩:=fs hB 5
       obtain ⟨z8,e8,zb8⟩:=fs hB 8
       simp only [e5,e8] at xk ⊢
       go_simp
       exact xk _ _ _ rfl ⟨w9.heap.size,[1,_,_],rfl,rfl,ai.new w9 3 _,by have:=xj.env.lt; omega,by intro z hz; simp only [mC,mN,oF] at hz; rcases hz with rfl | rfl | rfl <;> (first | assumption | exact ⟨dD,dD⟩)⟩ (xj.alloc xl.self dD _) (fun _=>World.grownBy_alloc _ _ _)
      refine sm0 [] (fun v _=>∃ z:Int,v=O U z∧Bd z) (fun vs L9 w9 xl xj hB K9 xk=>?_) ?_
      next =>
       have d2:=fe hB 2
       simp only [d2] at xk ⊢
       simp only [Act.put,sA,gs0,gs1] at xk
       obtain ⟨b9,l9,e9,el9,eL9,en9,eb9⟩:=fs hB 9
       simp only [e9] at xk ⊢
       go_simp
       refine (di xj.env b9 3 l9 el9 eL9 en9 oM oM (by have:=xj.cnt; omega)).mono ?_
       rintro en w8 ⟨x8,rfl,zi,yN,xP⟩
       exact xk _ _ _ rfl ⟨_,rfl,eb9 _ zi⟩ (dC xl xj yN xP) (fun _=>xP)
      refine sm0 [] (fun v _=>∃ s:de,v=.agg #[O U s.kind,O U s.stamp,O U s.person,O U s.value]∧tU s) (fun vs L9 w9 xl xj hB K9 xk=>?_) ?_
      next =>
       have d1:=fe hB 1
       simp only [d1] at xk ⊢
       simp only [Act.put,sA,gs0,gs1] at xk
       obtain ⟨z10,e10,zb10⟩:=fs hB 10
       simp only [e10] at xk ⊢
       go_simp
       exact xk _ _ _ rfl ⟨⟨_,_,_,_⟩,rfl,wC (aD) (aD) (aD) (aD)⟩ (dS xl xj) gR
      refine sm [] (fun _ w9=>∃ s:de,ai w9 (W.heap.size+1) 112 s.enc∧tU s) (fun vs L9 w9 xl xj hB K9 xk=>?_) ?_
      next =>
       simp only [Act.put] at xk
       obtain ⟨s11,e11,sb11⟩:=fs hB 11
       simp only [e11] at xk ⊢
       have xv:ai w9 (W.heap.size+1) 112 [O U 0,O U 0,O U 0,O U 0]:=(xj.room (bp.lies 12 (W.heap.size+1) 112 [O U 0,O U 0,O U 0,O U 0]) sP).2 xl.self
       obtain ⟨y0,y1,y2,y3⟩:=cells4 xv
       obtain ⟨f0,f1,f2,f3⟩:=frz4 xv
       have xD:ai _ (W.heap.size+1) 112 [O U s11.kind,O U s11.stamp,O U s11.person,O U s11.value]:=((((xv.set 0 (O U s11.kind)).set 1 (O U s11.stamp)).set 2 (O U s11.person)).set 3 (O U s11.value))
       have yO:=jZ (gw4 w9 (W.heap.size+1) (O U s11.kind) (O U s11.stamp) (O U s11.person) (O U s11.value))
       have xO:=jZ xD
       clear xD xv
       go_simp
       exact xk _ undef _ rfl ⟨s11,xO.out,sb11⟩ (xj.wrote xl.self dD yO.out (fun b e=>by injection e with e; subst e; exact ⟨oM,oM,.inl sP⟩) (by intro p hp e; simp only [mC,mN,oF] at hp; first | (subst hp; exact .inl rfl) | (rcases hp with rfl | rfl <;> first | exact .inl rfl | exact absurd (Option.some.inj e) oM))) nq
      refine au fun vs Lq w9 xv xj hB=>?_
      obtain ⟨s,hS,BU⟩:=hB 12 _ rfl rfl dD
      have Bp:=xj.le
      have Bq:=dK G xj (by intro k hk xw; simp only [mC,mN,oF] at hk; omega) E4
      clear hB xv xj
      have hS:ai w9 (W.heap.size+1) 112 [O U s.kind,O U s.stamp,O U s.person,O U s.value]:=hS
      obtain ⟨y0,y1,y2,y3⟩:=cells4 hS
      clear hS
      repeat (first | go_step)
      refine bodyPost_ret (v:=.agg #[O U s.kind,O U s.stamp,O U s.person,O U s.value]) (by simp [results,Tryz.results111,go_sem,y0,y1,y2,y3]) rfl ?_
      exact ⟨s,rfl,BU,Bp.mono oM,Bq⟩
     ·subst hi
      obtain ⟨u0,u1,u2⟩:=cells3 L6
      obtain ⟨y0,y1,y2,y3⟩:=cells4 L4
      obtain ⟨f0,f1,f2,f3⟩:=frz4 L4
      have yO:=(gw4 W4 (W.heap.size+1) (O U 5) (O U oa) (O U ob) (O U 0))
      have Bp:=E4.wrote yO oM oM
      have Bq:=bf G yO oM
      have CB:=((((L4.set 0 (O U 5)).set 1 (O U oa)).set 2 (O U ob)).set 3 (O U 0))
      simp only [List.set_cons_zero,List.set_cons_succ] at CB
      obtain ⟨W8,yo⟩ : ∃ W8,((((W4.setCell ⟨(W.heap.size+1),0,none⟩ (O U 5)).setCell ⟨(W.heap.size+1),1,none⟩ (O U oa)).setCell ⟨(W.heap.size+1),2,none⟩ (O U ob)).setCell ⟨(W.heap.size+1),3,none⟩ (O U 0))=W8:=⟨_,rfl⟩
      rw [yo] at Bp Bq CB
      have Cr:=jZ yo
      have BV:=jZ CB
      clear yO L4 G yo CB
      repeat (first | go_values | go_skip | go_guarded | go_step | go_upon | simp only [])
      rw [Cr.out]
      have CB:=BV.out
      obtain ⟨x0,x1,x2,x3⟩:=cells4 CB
      refine bodyPost_ret (v:=.agg #[O U 5,O U oa,O U ob,O U 0]) (by simp [results,Tryz.results111,go_sem,x0,x1,x2,x3]) rfl ?_
      exact ⟨⟨5,oa,ob,0⟩,rfl,wC (aD) (aD) (aD) (aD),Bp.mono oM,Bq⟩
     ·rcases hi with rfl | rfl
      all_goals
       go_wp2_with fail
       refine al (Dr w W4 g A bs cap (m+42+2+2) 2 9 [g,(W.heap.size+1)] [bp.lies 8 (W.heap.size+1) 112 [O U 0,O U 0,O U 0,O U 0]]) (fun i w1 w2=>i ∉ [8]→w1.grownBy w2 (some g)) kZ kZ kZ (Dr.start E4 (fun p hp=>by simp only [List.mem_singleton] at hp; subst hp; exact ⟨ng.out _ oM,L4⟩)) ?_
       simp only [ax,Act.put,sA,gs0,gs1,Nat.zero_add,Nat.reduceAdd]
       refine aa _ vd0 ?_
       refine aa _ (vd1d1 0 L6 nx6 0) ?_
       refine aa _ vd0 ?_
       refine aa _ (vd1d1 2 L6 nx6 1) ?_
       refine aa _ vd0 ?_
       refine af [8] (fun v w9=>∃ (b:Nat) (l:List Int),v=F (some ⟨b,0,none⟩) 4 4∧l.length=4∧ai w9 b 3 (bj l)∧b ≠ g∧∀ z ∈ l,Bd z) ?_ (fun vs L9 w9 xl xj hB K9 xk=>?_) ?_
       next =>
        intro i9 yg hb9 ha9 v w1 w2 hv xJ
        have hb:=xJ (fun hm=>by
         simp only [mC,mN,oF] at hm hb9
         subst hm
         ·exact hb9 sP)
        obtain ⟨b,l,q1,q2,q3,q4,q5⟩:=hv
        exact ⟨b,l,q1,q2,q3.kept hb (by intro e; injection e with e; exact q4 e),q4,q5⟩
       next =>
        simp only [Act.put,sA,gs0,gs1] at xk
        go_simp
        exact xk _ _ _ rfl ⟨w9.heap.size,[5,17,18,999],rfl,rfl,ai.new w9 3 _,by have:=xj.env.lt; omega,by intro z hz; simp only [mC,mN,oF] at hz; rcases hz with rfl | rfl | rfl | rfl <;> (first | assumption | exact ⟨dD,dD⟩)⟩ (xj.alloc xl.self dD _) (fun _=>World.grownBy_alloc _ _ _)
       refine sm0 [] (fun v _=>∃ z:Int,v=O U z∧Bd z) (fun vs L9 w9 xl xj hB K9 xk=>?_) ?_
       next =>
        have d4:=fe hB 4
        simp only [d4] at xk ⊢
        simp only [Act.put,sA,gs0,gs1] at xk
        obtain ⟨b5,l5,e5,el5,eL5,en5,eb5⟩:=fs hB 5
        simp only [e5] at xk ⊢
        go_simp
        refine (di xj.env b5 4 l5 el5 eL5 en5 oM oM (by have:=xj.cnt; omega)).mono ?_
        rintro en w8 ⟨x8,rfl,zi,yN,xP⟩
        exact xk _ _ _ rfl ⟨_,rfl,eb5 _ zi⟩ (dC xl xj yN xP) (fun _=>xP)
       refine sm0 [] (fun v _=>∃ s:de,v=.agg #[O U s.kind,O U s.stamp,O U s.person,O U s.value]∧tU s) (fun vs L9 w9 xl xj hB K9 xk=>?_) ?_
       next =>
        have d1:=fe hB 1
        have d3:=fe hB 3
        simp only [d1,d3] at xk ⊢
        simp only [Act.put,sA,gs0,gs1] at xk
        obtain ⟨z6,e6,zb6⟩:=fs hB 6
        simp only [e6] at xk ⊢
        go_simp
        exact xk _ _ _ rfl ⟨⟨_,_,_,_⟩,rfl,wC (aD) (aD) (aD) (aD)⟩ (dS xl xj) gR
       refine sm [] (fun _ w9=>∃ s:de,ai w9 (W.heap.size+1) 112 s.enc∧tU s) (fun vs L9 w9 xl xj hB K9 xk=>?_) ?_
       next =>
        simp only [Act.put] at xk
        obtain ⟨s7,e7,sb7⟩:=fs hB 7
        simp only [e7] at xk ⊢
        have xv:ai w9 (W.heap.size+1) 112 [O U 0,O U 0,O U 0,O U 0]:=(xj.room (bp.lies 8 (W.heap.size+1) 112 [O U 0,O U 0,O U 0,O U 0]) sP).2 xl.self
        obtain ⟨y0,y1,y2,y3⟩:=cells4 xv
        obtain ⟨f0,f1,f2,f3⟩:=frz4 xv
        have xD:ai _ (W.heap.size+1) 112 [O U s7.kind,O U s7.stamp,O U s7.person,O U s7.value]:=((((xv.set 0 (O U s7.kind)).set 1 (O U s7.stamp)).set 2 (O U s7.person)).set 3 (O U s7.value))
        have yO:=jZ (gw4 w9 (W.heap.size+1) (O U s7.kind) (O U s7.stamp) (O U s7.person) (O U s7.value))
        have xO:=jZ xD
        clear xD xv
        go_simp
        exact xk _ undef _ rfl ⟨s7,xO.out,sb7⟩ (xj.wrote xl.self dD yO.out (fun b e=>by injection e with e; subst e; exact ⟨oM,oM,.inl sP⟩) (by intro p hp e; simp only [mC,mN,oF] at hp; first | (subst hp; exact .inl rfl) | (rcases hp with rfl | rfl <;> first | exact .inl rfl | exact absurd (Option.some.inj e) oM))) nq
       refine au fun vs Lq w9 xv xj hB=>?_
       obtain ⟨s,hS,BU⟩:=hB 8 _ rfl rfl dD
       have Bp:=xj.le
       have Bq:=dK G xj (by intro k hk xw; simp only [mC,mN,oF] at hk; omega) E4
       clear hB xv xj
       have hS:ai w9 (W.heap.size+1) 112 [O U s.kind,O U s.stamp,O U s.person,O U s.value]:=hS
       obtain ⟨y0,y1,y2,y3⟩:=cells4 hS
       clear hS
       repeat (first | go_step)
       refine bodyPost_ret (v:=.agg #[O U s.kind,O U s.stamp,O U s.person,O U s.value]) (by simp [results,Tryz.results111,go_sem,y0,y1,y2,y3]) rfl ?_
       exact ⟨s,rfl,BU,Bp.mono oM,Bq⟩
    ·go_wp2_with fail
     refine al (Dr w W3 g A bs cap (m+42+2) 2 16 [g,(W.heap.size+1)] [bp.lies 15 (W.heap.size+1) 112 [O U 0,O U 0,O U 0,O U 0]]) (fun i w1 w2=>i ∉ [15]→w1.grownBy w2 (some g)) kZ kZ kZ (Dr.start E3 (fun p hp=>by simp only [List.mem_singleton] at hp; subst hp; exact ⟨ng.out _ oM,L4⟩)) ?_
     simp only [ax,Act.put,sA,gs0,gs1,Nat.zero_add,Nat.reduceAdd]
     refine aa _ vd0 ?_
     refine af [15] (fun v w9=>∃ (b:Nat) (l:List Int),v=F (some ⟨b,0,none⟩) 3 3∧l.length=3∧ai w9 b 3 (bj l)∧b ≠ g∧∀ z ∈ l,Bd z) ?_ (fun vs L9 w9 xl xj hB K9 xk=>?_) ?_
     next =>
      intro i9 yg hb9 ha9 v w1 w2 hv xJ
      have hb:=xJ (fun hm=>by
       simp only [mC,mN,oF] at hm hb9
       subst hm
       ·exact hb9 sP)
      obtain ⟨b,l,q1,q2,q3,q4,q5⟩:=hv
      exact ⟨b,l,q1,q2,q3.kept hb (by intro e; injection e with e; exact q4 e),q4,q5⟩
     next =>
      simp only [Act.put,sA,gs0,gs1] at xk
      go_simp
      exact xk _ _ _ rfl ⟨w9.heap.size,[0,7,2],rfl,rfl,ai.new w9 3 _,by have:=xj.env.lt; omega,by intro z hz; simp only [mC,mN,oF] at hz; rcases hz with rfl | rfl | rfl <;> (first | assumption | exact ⟨dD,dD⟩)⟩ (xj.alloc xl.self dD _) (fun _=>World.grownBy_alloc _ _ _)
     refine sm0 [] (fun v _=>∃ z:Int,v=O U z∧Bd z) (fun vs L9 w9 xl xj hB K9 xk=>?_) ?_
     next =>
      have d0:=fe hB 0
      simp only [d0] at xk ⊢
      simp only [Act.put,sA,gs0,gs1] at xk
      obtain ⟨b1,l1,e1,el1,eL1,en1,eb1⟩:=fs hB 1
      simp only [e1] at xk ⊢
      go_simp
      refine (di xj.env b1 3 l1 el1 eL1 en1 oM oM (by have:=xj.cnt; omega)).mono ?_
      rintro en w8 ⟨x8,rfl,zi,yN,xP⟩
      exact xk _ _ _ rfl ⟨_,rfl,eb1 _ zi⟩ (dC xl xj yN xP) (fun _=>xP)
     refine aa _ vd0 ?_
     refine aa _ vd0 ?_
     refine aa _ (vd1d1 4 L5 nx5 0) ?_
     refine af [15] (fun v w9=>∃ (b:Nat) (l:List Int),v=F (some ⟨b,0,none⟩) 3 3∧l.length=3∧ai w9 b 3 (bj l)∧b ≠ g∧∀ z ∈ l,Bd z) ?_ (fun vs L9 w9 xl xj hB K9 xk=>?_) ?_
     next =>
      intro i9 yg hb9 ha9 v w1 w2 hv xJ
      have hb:=xJ (fun hm=>by
       simp only [mC,mN,oF] at hm hb9
       subst hm
       ·exact hb9 sP)
      obtain ⟨b,l,q1,q2,q3,q4,q5⟩:=hv
      exact ⟨b,l,q1,q2,q3.kept hb (by intro e; injection e with e; exact q4 e),q4,q5⟩
     next =>
      have d5:=fe hB 5
      simp only [d5] at xk ⊢
      simp only [Act.put,sA,gs0,gs1] at xk
      go_simp
      exact xk _ _ _ rfl ⟨w9.heap.size,[0,_,100],rfl,rfl,ai.new w9 3 _,by have:=xj.env.lt; omega,by intro z hz; simp only [mC,mN,oF] at hz; rcases hz with rfl | rfl | rfl <;> (first | assumption | exact ⟨dD,dD⟩)⟩ (xj.alloc xl.self dD _) (fun _=>World.grownBy_alloc _ _ _)
     refine sm0 [] (fun v _=>∃ z:Int,v=O U z∧Bd z) (fun vs L9 w9 xl xj hB K9 xk=>?_) ?_
     next =>
      have d3:=fe hB 3
      simp only [d3] at xk ⊢
      simp only [Act.put,sA,gs0,gs1] at xk
      obtain ⟨b6,l6,e6,el6,eL6,en6,eb6⟩:=fs hB 6
      simp only [e6] at xk ⊢
      go_simp
      refine (di xj.env b6 3 l6 el6 eL6 en6 oM oM (by have:=xj.cnt; omega)).mono ?_
      rintro en w8 ⟨x8,rfl,zi,yN,xP⟩
      exact xk _ _ _ rfl ⟨_,rfl,eb6 _ zi⟩ (dC xl xj yN xP) (fun _=>xP)
     refine aa _ vd0 ?_
     refine af [15] (fun v w9=>∃ (b:Nat) (l:List Int),v=F (some ⟨b,0,none⟩) 2 2∧l.length=2∧ai w9 b 3 (bj l)∧b ≠ g∧∀ z ∈ l,Bd z) ?_ (fun vs L9 w9 xl xj hB K9 xk=>?_) ?_
     next =>
      intro i9 yg hb9 ha9 v w1 w2 hv xJ
      have hb:=xJ (fun hm=>by
       simp only [mC,mN,oF] at hm hb9
       subst hm
       ·exact hb9 sP)
      obtain ⟨b,l,q1,q2,q3,q4,q5⟩:=hv
      exact ⟨b,l,q1,q2,q3.kept hb (by intro e; injection e with e; exact q4 e),q4,q5⟩
     next =>
      simp only [Act.put,sA,gs0,gs1] at xk
      go_simp
      exact xk _ _ _ rfl ⟨w9.heap.size,[0,5],rfl,rfl,ai.new w9 3 _,by have:=xj.env.lt; omega,by intro z hz; simp only [mC,mN,oF] at hz; rcases hz with rfl | rfl <;> (first | assumption | exact ⟨dD,dD⟩)⟩ (xj.alloc xl.self dD _) (fun _=>World.grownBy_alloc _ _ _)
     refine sm0 [] (fun v _=>∃ z:Int,v=O U z∧Bd z) (fun vs L9 w9 xl xj hB K9 xk=>?_) ?_
     next =>
      have d8:=fe hB 8
      simp only [d8] at xk ⊢
      simp only [Act.put,sA,gs0,gs1] at xk
      obtain ⟨b9,l9,e9,el9,eL9,en9,eb9⟩:=fs hB 9
      simp only [e9] at xk ⊢
      go_simp
      refine (di xj.env b9 2 l9 el9 eL9 en9 oM oM (by have:=xj.cnt; omega)).mono ?_
      rintro en w8 ⟨x8,rfl,zi,yN,xP⟩
      exact xk _ _ _ rfl ⟨_,rfl,eb9 _ zi⟩ (dC xl xj yN xP) (fun _=>xP)
     refine aa _ vd0 ?_
     refine af [15] (fun v w9=>∃ (b:Nat) (l:List Int),v=F (some ⟨b,0,none⟩) 3 3∧l.length=3∧ai w9 b 3 (bj l)∧b ≠ g∧∀ z ∈ l,Bd z) ?_ (fun vs L9 w9 xl xj hB K9 xk=>?_) ?_
     next =>
      intro i9 yg hb9 ha9 v w1 w2 hv xJ
      have hb:=xJ (fun hm=>by
       simp only [mC,mN,oF] at hm hb9
       subst hm
       ·exact hb9 sP)
      obtain ⟨b,l,q1,q2,q3,q4,q5⟩:=hv
      exact ⟨b,l,q1,q2,q3.kept hb (by intro e; injection e with e; exact q4 e),q4,q5⟩
     next =>
      simp only [Act.put,sA,gs0,gs1] at xk
      go_simp
      exact xk _ _ _ rfl ⟨w9.heap.size,[0,1, -1],rfl,rfl,ai.new w9 3 _,by have:=xj.env.lt; omega,by intro z hz; simp only [mC,mN,oF] at hz; rcases hz with rfl | rfl | rfl <;> (first | assumption | exact ⟨dD,dD⟩)⟩ (xj.alloc xl.self dD _) (fun _=>World.grownBy_alloc _ _ _)
     refine sm0 [] (fun v _=>∃ z:Int,v=O U z∧Bd z) (fun vs L9 w9 xl xj hB K9 xk=>?_) ?_
     next =>
      have d11:=fe hB 11
      simp only [d11] at xk ⊢
      simp only [Act.put,sA,gs0,gs1] at xk
      obtain ⟨b12,l12,e12,el12,eL12,en12,eb12⟩:=fs hB 12
      simp only [e12] at xk ⊢
      go_simp
      refine (di xj.env b12 3 l12 el12 eL12 en12 oM oM (by have:=xj.cnt; omega)).mono ?_
      rintro en w8 ⟨x8,rfl,zi,yN,xP⟩
      exact xk _ _ _ rfl ⟨_,rfl,eb12 _ zi⟩ (dC xl xj yN xP) (fun _=>xP)
     refine sm0 [] (fun v _=>∃ s:de,v=.agg #[O U s.kind,O U s.stamp,O U s.person,O U s.value]∧tU s) (fun vs L9 w9 xl xj hB K9 xk=>?_) ?_
     next =>
      simp only [Act.put,sA,gs0,gs1] at xk
      obtain ⟨z2,e2,zb2⟩:=fs hB 2
      obtain ⟨z7,e7,zb7⟩:=fs hB 7
      obtain ⟨z10,e10,zb10⟩:=fs hB 10
      obtain ⟨z13,e13,zb13⟩:=fs hB 13
      simp only [e2,e7,e10,e13] at xk ⊢
      go_simp
      exact xk _ _ _ rfl ⟨⟨_,_,_,_⟩,rfl,wC (aD) (aD) (aD) (aD)⟩ (dS xl xj) gR
     refine sm [] (fun _ w9=>∃ s:de,ai w9 (W.heap.size+1) 112 s.enc∧tU s) (fun vs L9 w9 xl xj hB K9 xk=>?_) ?_
     next =>
      simp only [Act.put] at xk
      obtain ⟨s14,e14,sb14⟩:=fs hB 14
      simp only [e14] at xk ⊢
      have xv:ai w9 (W.heap.size+1) 112 [O U 0,O U 0,O U 0,O U 0]:=(xj.room (bp.lies 15 (W.heap.size+1) 112 [O U 0,O U 0,O U 0,O U 0]) sP).2 xl.self
      obtain ⟨y0,y1,y2,y3⟩:=cells4 xv
      obtain ⟨f0,f1,f2,f3⟩:=frz4 xv
      have xD:ai _ (W.heap.size+1) 112 [O U s14.kind,O U s14.stamp,O U s14.person,O U s14.value]:=((((xv.set 0 (O U s14.kind)).set 1 (O U s14.stamp)).set 2 (O U s14.person)).set 3 (O U s14.value))
      have yO:=jZ (gw4 w9 (W.heap.size+1) (O U s14.kind) (O U s14.stamp) (O U s14.person) (O U s14.value))
      have xO:=jZ xD
      clear xD xv
      go_simp
      exact xk _ undef _ rfl ⟨s14,xO.out,sb14⟩ (xj.wrote xl.self dD yO.out (fun b e=>by injection e with e; subst e; exact ⟨oM,oM,.inl sP⟩) (by intro p hp e; simp only [mC,mN,oF] at hp; first | (subst hp; exact .inl rfl) | (rcases hp with rfl | rfl <;> first | exact .inl rfl | exact absurd (Option.some.inj e) oM))) nq
     refine au fun vs Lq w9 xv xj hB=>?_
     obtain ⟨s,hS,BU⟩:=hB 15 _ rfl rfl dD
     have Bp:=xj.le
     have Bq:=dK G xj (by intro k hk xw; simp only [mC,mN,oF] at hk; omega) E3
     clear hB xv xj
     have hS:ai w9 (W.heap.size+1) 112 [O U s.kind,O U s.stamp,O U s.person,O U s.value]:=hS
     obtain ⟨y0,y1,y2,y3⟩:=cells4 hS
     clear hS
     repeat (first | go_step)
     refine bodyPost_ret (v:=.agg #[O U s.kind,O U s.stamp,O U s.person,O U s.value]) (by simp [results,Tryz.results111,go_sem,y0,y1,y2,y3]) rfl ?_
     exact ⟨s,rfl,BU,Bp.mono oM,Bq⟩
end Go.Proofs.YtoeoimhemojdeaaGreatDoor
