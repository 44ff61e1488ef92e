/- Rs12: the texts ExS ExT Joinb, joined into one file. -/
import Derived.Shelf.Strings.OnBuilder
import Derived.Test.YtoeoimhemojdeaaGreatDoorProg
import Derived.Test.YtoeoimhemojdeaaGreatDoorRs11

set_option linter.unusedVariables false
open Go.Value renaming int → O, slice → F, string → uk
open Go.IntKind renaming i64 → U

namespace Go.Proofs.YtoeoimhemojdeaaGreatDoor
open Go.RowKit
theorem jt {m:List Int} {rest:List Value} {k:Nat} (h:k < m.length):(bn m++rest)[k]?=some (O U m[k]):=by
 rw [List.getElem?_append_left (by simpa using h),List.getElem?_map,List.getElem?_eq_getElem h]; rfl
set_option maxRecDepth 100000 in
set_option maxHeartbeats 8000000 in
theorem qA (x:aL) (l:Lg) (line:ByteArray) (w:World) (h:aM w w.heap.size x) (hcap:x.t.length≤x.tc) (G:bo x) (hs:line.size≤1000) :
  Calls Tryz.prog 47 #[aD x l,uk line] w (bg w x l (iq x line)):=by
 have L1:=(ah.new w 42 #[F x.TA x.t.length x.tc,F x.OA x.o.length x.oc,O U x.got,O U x.sold,O U x.missed,uk l.D,uk l.P,O U l.n]).alloc (.cells #[F none 0 0,F none 0 0,O U 0,O U 0,O U 0,uk ⟨#[]⟩,uk ⟨#[]⟩,O U 0] 42)
 have L2:=ah.new1 w (.cells #[F x.TA x.t.length x.tc,F x.OA x.o.length x.oc,O U x.got,O U x.sold,O U x.missed,uk l.D,uk l.P,O U l.n] 42) 42 #[F none 0 0,F none 0 0,O U 0,O U 0,O U 0,uk ⟨#[]⟩,uk ⟨#[]⟩,O U 0]
 have b1:=(Below.refl w.heap.size w).alloc (Nat.le_refl _) (.cells #[F x.TA x.t.length x.tc,F x.OA x.o.length x.oc,O U x.got,O U x.sold,O U x.missed,uk l.D,uk l.P,O U l.n] 42)
 have b2:=b1.alloc b1.size (.cells #[F none 0 0,F none 0 0,O U 0,O U 0,O U 0,uk ⟨#[]⟩,uk ⟨#[]⟩,O U 0] 42)
 have hW:=h.up b2 (Nat.le_refl _)
 have hge:w.heap.size≤w.heap.size+1:=by omega
 clear b1
 have hSP:=fun W=>kw line 32 W (by omega)
 have hpc:=gZ (b:=32) (n:=1000) (s:=bl line) (by rw [ao]; exact hs)
 have hpm:=gY (b:=32) (n:=1000) (s:=bl line) (by rw [ao]; exact hs)
 have HC0:=Lib.hid (fun h=>pz (x:=x) (line:=line) h)
 have HC1:=Lib.hid (fun ns h=>pA (x:=x) (line:=line) (ns:=ns) h)
 have HWD:Hid (wd (bl line) 0=⟨((aH 32 (bl line)).getD 0 []).toArray⟩):=rfl
 have HW1:=Lib.hid (tU (l:=bl line))
 obtain ⟨ps,hps⟩ : ∃ ps,aH 32 (bl line)=ps:=⟨_,rfl⟩
 simp only [hps] at hSP hpc hpm HC0 HC1 HWD HW1
 have HPT:=Lib.hid hpm
 obtain ⟨hp1,hp2⟩:=hpc
 obtain ⟨R,hR⟩ : ∃ R,iq x line=R:=⟨_,rfl⟩
 rw [hR] at HC0 HC1 ⊢
 obtain ⟨w0,hw0⟩ : ∃ w0,wd (bl line) 0=w0:=⟨_,rfl⟩
 rw [hw0] at HC1 HWD HW1
 clear hps hpm hR hw0
 go_enter Tryz.func47,Tryz.ntmps47
 go_wp2_with fail
 generalize ((w.alloc (.cells #[F x.TA x.t.length x.tc,F x.OA x.o.length x.oc,O U x.got,O U x.sold,O U x.missed,uk l.D,uk l.P,O U l.n] 42)).alloc (.cells #[F none 0 0,F none 0 0,O U 0,O U 0,O U 0,uk ⟨#[]⟩,uk ⟨#[]⟩,O U 0] 42))=W at L1 L2 b2 hW ⊢
 generalize w.heap.size+1=gr at L2 hge ⊢
 refine (hSP W).mono ?_
 rintro e w3 ⟨g8,c8,rest,rfl,L8,hg8,hb3⟩
 have ha:=(Below.refl w3.heap.size w3).alloc (Nat.le_refl _) (.cells #[] 3)
 have hO:(w3.alloc (.cells #[] 3)).ownsRow W.heap.size 3 1 (F (some ⟨w3.heap.size,0,none⟩) 0 0) 0 []:=cP (ah.new w3 3 #[]) hb3.size
 have S3:=Lib.hid (s6.mk (w:=W) (v:=F (some ⟨w3.heap.size,0,none⟩) 0 0) (m:=[]) (aq hb3 ha) (L8.below ha L8.lt) hO)
 clear hb3 ha hO hSP L8
 have hp1' : (1:Int)≤(ps.length:Int):=by omega
 go_wp2_with fail
 generalize w3.alloc (.cells #[] 3)=W3 at S3 ⊢
 generalize w3.heap.size=g3 at S3 ⊢
 go_loopw [7,8,9,10] (fun o i _ _ wr=>∃ (k:Nat) (A:Option Addr) (c:Nat) (m:List Int),1≤k∧k≤ps.length∧i=O U k∧o=F A m.length c∧m.length≤k∧Hid (s6 W wr g8 ps rest (F A m.length c) m)∧Hid (fE m (ps.drop k)=dj (ps.drop 1))) (fun _ i _ _ _=>ps.length - (intOf i).toNat)
 case atStart=>exact ⟨1,some ⟨g3,0,none⟩,0,[],Nat.le_refl _,hp1,rfl,rfl,Nat.zero_le _,S3,lJ _⟩
 case round =>
  clear S3
  obtain ⟨k,A,c,m,hk1,hk,rfl,rfl,hmk,HS,HRN⟩:=hrel
  by_cases hlt:k < ps.length
  ·have hlt2:(k:Int) < (ps.length:Int):=by omega
   have c0:wr.cell? ⟨g8,k,none⟩=some (uk ⟨(ps[k]'hlt).toArray⟩):=by
    rw [HS.out.ws.cell]; exact ff ps _ _ hlt
   have ht:=HPT.out (ps[k]'hlt) (List.getElem_mem _)
   obtain ⟨t,hte⟩ : ∃ t:ByteArray,t=⟨(ps[k]'hlt).toArray⟩:=⟨_,rfl⟩
   have hbt:bl t=ps[k]'hlt:=by rw [hte,bK]
   rw [← hte] at c0
   have hzt:t.size≤1000:=by rw [← ao,hbt]; exact ht
   clear hte ht
   have HN0:Hid (cj (bl t)=none→dj (ps.drop 1)=none):=fun hn=>by
    rw [← HRN.out]; exact lK hlt (by rw [← hbt]; exact hn)
   have HN1:Hid (∀ n,cj (bl t)=some n→fE (m++[n]) (ps.drop (k+1))=dj (ps.drop 1)):=fun n hn=>by
    rw [← HRN.out]; exact (lL hlt (by rw [← hbt]; exact hn)).symm
   have hpi:=fun W=>lh t W (by omega)
   unfold iu at hpi
   obtain ⟨q,hq⟩ : ∃ q,cj (bl t)=q:=⟨_,rfl⟩
   rw [hq] at HN0 HN1 hpi
   clear hq hbt
   cases q with
   | none =>
    have HE:=Lib.hid (HC0.out (HN0.out rfl))
    simp only [Option.isSome_none,Option.getD_none] at hpi
    go_wp2_with fail
    refine (hpi _).mono ?_
    rintro e w4 ⟨rfl,hb4⟩
    have b5:=aq HS.out.bl hb4
    have K1:=L1.below b5 L1.lt
    have K2:=L2.below b5 L2.lt
    have b6:=b2.trans (b5.mono b2.size)
    obtain ⟨c0,c1,c2,c3,c4,c5,c6,c7⟩:=cells8 K1
    obtain ⟨z0,z1,z2,z3,z4,z5,z6,z7⟩:=cells8 K2
    obtain ⟨f0,f1,f2,f3,f4,f5,f6,f7⟩:=frz8 K2
    have bz:=Lib.hid (dY (g:=gr) (b6) hge (F x.TA x.t.length x.tc) (F x.OA x.o.length x.oc) (O U x.got) (O U x.sold) (O U x.missed) (uk l.D) (uk l.P) (O U l.n))
    clear K1 K2 L1 L2 b6 b5 hb4 HS HRN
    go_wp2_with fail
    refine bodyPost_ret (v:=.tuple #[aD x l,uk ⟨#[63]⟩]) (by simp [results,Tryz.results47,go_sem, *]) rfl (by rw [HE.out]; exact ⟨_,rfl,.inl ⟨rfl,rfl⟩,bz.out⟩)
   | some n =>
    have HN:=Lib.hid (HN1.out n rfl)
    simp only [Option.isSome_some,Option.getD_some] at hpi
    go_wp2_with fail
    refine (hpi _).mono ?_
    rintro e w4 ⟨rfl,hb4⟩
    have HS4:=Lib.hid (HS.out.then hb4)
    have HRW:=Lib.hid HS4.out.row
    have hsz:W.heap.size≤w4.heap.size:=HS4.out.bl.size
    go_wp2_with (at_builtin; refine bY (w0:=w4) rfl _ _ 100 rfl 3 _ 1 8 Tryz.underlying100 gV rfl (by omega) (by omega) W.heap.size _ _ _ rfl HRW #[O U n] 1 _ rfl (by first | rfl | exact Array.size_push _) rfl (by simp [Value.oneCell']) (by omega) hsz rfl rfl rfl rfl ?_; intro v6 w6 HO6 hg6 hb6)
    have HNEW:=Lib.hid (HS4.out.push (n:=n) HO6.out hg6 hb6)
    obtain ⟨A6,c6,hv6⟩:=av HO6.out
    subst hv6
    go_wp2
    go_roundw
    case rel=>exact ⟨k+1,A6,c6,m++[n],by omega,by omega,by go_num,by simp,by simp; omega,by rw [Hid]; simpa using HNEW.out,HN.out⟩
    case measure=>simp [intOf]; omega
  ·have hlt2 : ¬ (k:Int) < (ps.length:Int):=by omega
   have HNS:Hid (dj (ps.drop 1)=some m):=by
    have h1:=HRN.out; rw [List.drop_eq_nil_of_le (by omega),mL] at h1; exact h1.symm
   have HE:=Lib.hid (HC1.out m HNS.out)
   have b5:=HS.out.bl
   have K1:=L1.below b5 L1.lt
   have K2:=L2.below b5 L2.lt
   have b6:=b2.trans (b5.mono b2.size)
   have hW6:=hW.then b5
   have LW8:=HS.out.ws
   have hrow:=HS.out.row
   have c80:wr.cell? ⟨g8,0,none⟩=some (uk w0):=by
    rw [LW8.cell,HWD.out,ee (by omega:0 < ps.length)]; exact ff ps _ _ (by omega)
   have HLEN:Hid (ps.length=m.length+1):=by
    have:=nB HNS.out; rw [List.length_drop] at this; rw [Hid]; omega
   clear HS HRN L1 L2 b2 b5 hW HC0 HC1 HWD hlt
   clear HPT
   have hps0:(0:Int) < (ps.length:Int):=by omega
   have hpsN:0 < ps.length:=by omega
   by_cases e0:m.length=0
   ·have z0:((m.length:Int) == 0)=true:=by rw [e0]; rfl
    have z1:((m.length:Int) == 1)=false:=beq_false_of_ne (by omega)
    have z2:((m.length:Int) == 2)=false:=beq_false_of_ne (by omega)
    have z3:((m.length:Int) == 3)=false:=beq_false_of_ne (by omega)
    have hwl:w0=line:=by
     rw [HW1.out (by have:=HLEN.out; omega)]; exact (dQ rfl).symm
    have HR1:=HE.out
    rw [mO e0,hwl] at HR1
    have HT0:iO R=(cJ x line).getD ch:=by rw [HR1]; exact pC _
    have HO:Hid (eM x R=x.c):=by rw [HR1]; exact kx _
    have hc:=fun W hR=>px x line W hR G
    obtain ⟨T,hT⟩ : ∃ T,(cJ x line).getD ch=T:=⟨_,rfl⟩
    rw [hT] at hc HT0
    have HT:=Lib.hid HT0
    clear hT HT0 HR1 hwl HE HW1 HLEN HNS
    go_wp2_with fail
    refine am (Sw 5 (fun W9=>Below wr.heap.size wr W9) (fun W9=>Below w.heap.size w W9∧ah W9 gr 42 [F x.TA x.t.length x.tc,F x.OA x.o.length x.oc,O U x.got,O U x.sold,O U x.missed,uk l.D,uk l.P,O U l.n])) (fun i w1 w2=>i ∉ [5]→Below w1.heap.size w1 w2) (by kernel_rfl) (by kernel_rfl) (by kernel_rfl) (Sw.start (Below.refl _ _).drew) ?_
    simp only [aw,Act.put,List.setIfInBounds_toArray,List.set_cons_zero,List.set_cons_succ,Nat.zero_add,Nat.reduceAdd]
    apply aa
    case h1 =>
     intro vs L9 w9 hG9 hC9 hB K9 hK9
     replace hC9:=sb hC9 hG9
     have q0:w9.cell? ⟨w.heap.size,0,none⟩=some (F x.TA x.t.length x.tc):=(K1.below hC9 K1.lt).cell 0
     have q1:w9.cell? ⟨w.heap.size,1,none⟩=some (F x.OA x.o.length x.oc):=(K1.below hC9 K1.lt).cell 1
     have q2:w9.cell? ⟨w.heap.size,2,none⟩=some (O U x.got):=(K1.below hC9 K1.lt).cell 2
     have q3:w9.cell? ⟨w.heap.size,3,none⟩=some (O U x.sold):=(K1.below hC9 K1.lt).cell 3
     have q4:w9.cell? ⟨w.heap.size,4,none⟩=some (O U x.missed):=(K1.below hC9 K1.lt).cell 4
     have q5:w9.cell? ⟨w.heap.size,5,none⟩=some (uk l.D):=(K1.below hC9 K1.lt).cell 5
     have q6:w9.cell? ⟨w.heap.size,6,none⟩=some (uk l.P):=(K1.below hC9 K1.lt).cell 6
     have q7:w9.cell? ⟨w.heap.size,7,none⟩=some (O U l.n):=(K1.below hC9 K1.lt).cell 7
     simp only [Act.put,sA,s0,s1] at hK9
     go_simp
     exact hK9 _ _ rfl (sy hG9 hC9) bR
    apply aa
    case h1 =>
     intro vs L9 w9 hG9 hC9 hB K9 hK9
     replace hC9:=sb hC9 hG9
     simp only [Act.put,sA,s0,s1] at hK9
     go_simp
     exact hK9 _ _ rfl (sy hG9 hC9) bR
    apply aa
    case h1 =>
     intro vs L9 w9 hG9 hC9 hB K9 hK9
     replace hC9:=sb hC9 hG9
     have d1:=fe hB 1
     simp only [d1] at hK9 ⊢
     have q0:w9.cell? ⟨w.heap.size,0,none⟩=some (F x.TA x.t.length x.tc):=(K1.below hC9 K1.lt).cell 0
     have q1:w9.cell? ⟨w.heap.size,1,none⟩=some (F x.OA x.o.length x.oc):=(K1.below hC9 K1.lt).cell 1
     have q2:w9.cell? ⟨w.heap.size,2,none⟩=some (O U x.got):=(K1.below hC9 K1.lt).cell 2
     have q3:w9.cell? ⟨w.heap.size,3,none⟩=some (O U x.sold):=(K1.below hC9 K1.lt).cell 3
     have q4:w9.cell? ⟨w.heap.size,4,none⟩=some (O U x.missed):=(K1.below hC9 K1.lt).cell 4
     simp only [Act.put,sA,s0,s1] at hK9
     go_simp
     exact hK9 _ _ rfl (sy hG9 hC9) bR
    apply aa
    case h1 =>
     intro vs L9 w9 hG9 hC9 hB K9 hK9
     replace hC9:=sb hC9 hG9
     simp only [Act.put,sA,s0,s1] at hK9
     go_simp
     exact hK9 _ _ rfl (sy hG9 hC9) bR
    refine aa (uk T) (fun vs L9 w9 hG9 hC9 hB K9 hK9=>?_) ?_
    next =>
     replace hC9:=sb hC9 hG9
     have d2:=fe hB 2
     have d3:=fe hB 3
     simp only [d2,d3] at hK9 ⊢
     go_simp
     refine (hc w9 (hW6.then hC9)).mono ?_
     rintro en w8 ⟨rfl,hb8⟩
     exact hK9 _ _ rfl (Sw.stay hG9 (by kernel_rfl) (by decide) (hC9.trans (hb8.mono hC9.size))) (fun _=>hb8)
    refine aa (undef) (fun vs L9 w9 hG9 hC9 hB K9 hK9=>?_) ?_
    next =>
     replace hC9:=hC9.here hG9
     have d0:=fe hB 0
     simp only [d0] at hK9 ⊢
     have Lr:=K2.below hC9 K2.lt
     obtain ⟨z0,z1,z2,z3,z4,z5,z6,z7⟩:=cells8 Lr
     obtain ⟨f0,f1,f2,f3,f4,f5,f6,f7⟩:=frz8 Lr
     have hN8:=Lib.hid (show ah _ gr 42 [F x.TA x.t.length x.tc,F x.OA x.o.length x.oc,O U x.got,O U x.sold,O U x.missed,uk l.D,uk l.P,O U l.n] from oo (Lr) (F x.TA x.t.length x.tc) (F x.OA x.o.length x.oc) (O U x.got) (O U x.sold) (O U x.missed) (uk l.D) (uk l.P) (O U l.n))
     have hD8:=Lib.hid (dY (g:=gr) ((b6).trans (hC9.mono (b6).size)) hge (F x.TA x.t.length x.tc) (F x.OA x.o.length x.oc) (O U x.got) (O U x.sold) (O U x.missed) (uk l.D) (uk l.P) (O U l.n))
     clear Lr
     go_simp
     exact hK9 _ _ rfl (Sw.turn ⟨hD8.out,hN8.out⟩) (fun hq=>(hq (by decide)).elim)
    apply aa
    case h1 =>
     intro vs L9 w9 hG9 hC9 hB K9 hK9
     replace hC9:=hC9.after hG9 (by kernel_rfl)
     have d4:=fe hB 4
     simp only [d4] at hK9 ⊢
     simp only [Act.put,sA,s0,s1] at hK9
     go_simp
     exact hK9 _ _ rfl (Sw.on hG9 (by kernel_rfl) hC9) bR
    refine ax fun vs L9 w9 hL9 hC9 hB=>?_
    replace hC9:=hC9.done hL9 (by decide)
    have dl:=ag.eq (hB 6 _ rfl rfl (by decide))
    simp only [dl]
    clear hB dl
    obtain ⟨hD,hN⟩:=hC9
    obtain ⟨k0,k1,k2,k3,k4,k5,k6,k7⟩:=cells8 hN
    clear hN
    go_wp2
    refine bodyPost_ret (v:=.tuple #[aD x l,uk T]) (by simp [results,Tryz.results47,go_sem, *]) rfl (bg.mk HT.out (.inl ⟨rfl,HO.out⟩) hD)
   by_cases e1:m.length=1
   ·have z0:((m.length:Int) == 0)=false:=beq_false_of_ne (by omega)
    have z1:((m.length:Int) == 1)=true:=by rw [e1]; rfl
    have z2:((m.length:Int) == 2)=false:=beq_false_of_ne (by omega)
    have z3:((m.length:Int) == 3)=false:=beq_false_of_ne (by omega)
    have hm0:(0:Int) < (m.length:Int):=by omega
    have hn0:0 < m.length:=by omega
    obtain ⟨gN,cN,rN,hv,_,LN,_⟩:=bH hrow (by omega)
    injection hv with ea eb ec
    subst ea; subst ec
    clear eb
    have d0n:wr.cell? ⟨gN,0,none⟩=some (O U (m[0]'hn0)):=by rw [LN.cell]; exact jt hn0
    obtain ⟨a0,ha0⟩ : ∃ a,m[0]'hn0=a:=⟨_,rfl⟩
    rw [ha0] at d0n
    have HR1:=HE.out
    rw [q8 e1 hn0,ha0] at HR1
    have HT0:iO R=(gC x w0 a0).getD ch:=by rw [HR1]; exact pC _
    have HO:Hid (eM x R=x.c):=by rw [HR1]; exact kx _
    have hc:=fun W hR=>qw x l w0 a0 W hR G
    obtain ⟨T,hT⟩ : ∃ T,(gC x w0 a0).getD ch=T:=⟨_,rfl⟩
    rw [hT] at hc HT0
    have HT:=Lib.hid HT0
    clear hT HT0 HR1 HE HW1 HLEN HNS ha0
    go_wp2_with fail
    refine am (Sw 10 (fun W9=>Below wr.heap.size wr W9) (fun W9=>Below w.heap.size w W9∧ah W9 gr 42 [F x.TA x.t.length x.tc,F x.OA x.o.length x.oc,O U x.got,O U x.sold,O U x.missed,uk l.D,uk l.P,O U l.n])) (fun i w1 w2=>i ∉ [10]→Below w1.heap.size w1 w2) (by kernel_rfl) (by kernel_rfl) (by kernel_rfl) (Sw.start (Below.refl _ _).drew) ?_
    simp only [aw,Act.put,List.setIfInBounds_toArray,List.set_cons_zero,List.set_cons_succ,Nat.zero_add,Nat.reduceAdd]
    apply aa
    case h1 =>
     intro vs L9 w9 hG9 hC9 hB K9 hK9
     replace hC9:=sb hC9 hG9
     have q0:w9.cell? ⟨w.heap.size,0,none⟩=some (F x.TA x.t.length x.tc):=(K1.below hC9 K1.lt).cell 0
     have q1:w9.cell? ⟨w.heap.size,1,none⟩=some (F x.OA x.o.length x.oc):=(K1.below hC9 K1.lt).cell 1
     have q2:w9.cell? ⟨w.heap.size,2,none⟩=some (O U x.got):=(K1.below hC9 K1.lt).cell 2
     have q3:w9.cell? ⟨w.heap.size,3,none⟩=some (O U x.sold):=(K1.below hC9 K1.lt).cell 3
     have q4:w9.cell? ⟨w.heap.size,4,none⟩=some (O U x.missed):=(K1.below hC9 K1.lt).cell 4
     have q5:w9.cell? ⟨w.heap.size,5,none⟩=some (uk l.D):=(K1.below hC9 K1.lt).cell 5
     have q6:w9.cell? ⟨w.heap.size,6,none⟩=some (uk l.P):=(K1.below hC9 K1.lt).cell 6
     have q7:w9.cell? ⟨w.heap.size,7,none⟩=some (O U l.n):=(K1.below hC9 K1.lt).cell 7
     simp only [Act.put,sA,s0,s1] at hK9
     go_simp
     exact hK9 _ _ rfl (sy hG9 hC9) bR
    apply aa
    case h1 =>
     intro vs L9 w9 hG9 hC9 hB K9 hK9
     replace hC9:=sb hC9 hG9
     simp only [Act.put,sA,s0,s1] at hK9
     go_simp
     exact hK9 _ _ rfl (sy hG9 hC9) bR
    apply aa
    case h1 =>
     intro vs L9 w9 hG9 hC9 hB K9 hK9
     replace hC9:=sb hC9 hG9
     have d1:=fe hB 1
     simp only [d1] at hK9 ⊢
     simp only [Act.put,sA,s0,s1] at hK9
     go_simp
     exact hK9 _ _ rfl (sy hG9 hC9) bR
    apply aa
    case h1 =>
     intro vs L9 w9 hG9 hC9 hB K9 hK9
     replace hC9:=sb hC9 hG9
     have d2:=fe hB 2
     simp only [d2] at hK9 ⊢
     have q0:w9.cell? ⟨g8,0,none⟩=some (uk w0):=(hC9.cell LW8.lt).trans c80
     simp only [Act.put,sA,s0,s1] at hK9
     go_simp
     exact hK9 _ _ rfl (sy hG9 hC9) bR
    apply aa
    case h1 =>
     intro vs L9 w9 hG9 hC9 hB K9 hK9
     replace hC9:=sb hC9 hG9
     simp only [Act.put,sA,s0,s1] at hK9
     go_simp
     exact hK9 _ _ rfl (sy hG9 hC9) bR
    apply aa
    case h1 =>
     intro vs L9 w9 hG9 hC9 hB K9 hK9
     replace hC9:=sb hC9 hG9
     have d4:=fe hB 4
     simp only [d4] at hK9 ⊢
     simp only [Act.put,sA,s0,s1] at hK9
     go_simp
     exact hK9 _ _ rfl (sy hG9 hC9) bR
    apply aa
    case h1 =>
     intro vs L9 w9 hG9 hC9 hB K9 hK9
     replace hC9:=sb hC9 hG9
     have d5:=fe hB 5
     simp only [d5] at hK9 ⊢
     have q0:w9.cell? ⟨gN,0,none⟩=some (O U a0):=(hC9.cell LN.lt).trans d0n
     simp only [Act.put,sA,s0,s1] at hK9
     go_simp
     exact hK9 _ _ rfl (sy hG9 hC9) bR
    refine aa (.tuple #[.agg #[F x.TA x.t.length x.tc,F x.OA x.o.length x.oc,O U x.got,O U x.sold,O U x.missed,uk l.D,uk l.P,O U l.n],uk T]) (fun vs L9 w9 hG9 hC9 hB K9 hK9=>?_) ?_
    next =>
     replace hC9:=sb hC9 hG9
     have d0:=fe hB 0
     have d3:=fe hB 3
     have d6:=fe hB 6
     simp only [d0,d3,d6] at hK9 ⊢
     go_simp
     refine (hc w9 (hW6.then hC9)).mono ?_
     rintro en w8 ⟨rfl,hb8⟩
     exact hK9 _ _ rfl (Sw.stay hG9 (by kernel_rfl) (by decide) (hC9.trans (hb8.mono hC9.size))) (fun _=>hb8)
    apply aa
    case h1 =>
     intro vs L9 w9 hG9 hC9 hB K9 hK9
     replace hC9:=sb hC9 hG9
     have d7:=fe hB 7
     simp only [d7] at hK9 ⊢
     simp only [Act.put,sA,s0,s1] at hK9
     go_simp
     exact hK9 _ _ rfl (sy hG9 hC9) bR
    apply aa
    case h1 =>
     intro vs L9 w9 hG9 hC9 hB K9 hK9
     replace hC9:=sb hC9 hG9
     have d7:=fe hB 7
     simp only [d7] at hK9 ⊢
     simp only [Act.put,sA,s0,s1] at hK9
     go_simp
     exact hK9 _ _ rfl (sy hG9 hC9) bR
    refine aa (undef) (fun vs L9 w9 hG9 hC9 hB K9 hK9=>?_) ?_
    next =>
     replace hC9:=hC9.here hG9
     have d8:=fe hB 8
     simp only [d8] at hK9 ⊢
     have Lr:=K2.below hC9 K2.lt
     obtain ⟨z0,z1,z2,z3,z4,z5,z6,z7⟩:=cells8 Lr
     obtain ⟨f0,f1,f2,f3,f4,f5,f6,f7⟩:=frz8 Lr
     have hN8:=Lib.hid (show ah _ gr 42 [F x.TA x.t.length x.tc,F x.OA x.o.length x.oc,O U x.got,O U x.sold,O U x.missed,uk l.D,uk l.P,O U l.n] from oo (Lr) (F x.TA x.t.length x.tc) (F x.OA x.o.length x.oc) (O U x.got) (O U x.sold) (O U x.missed) (uk l.D) (uk l.P) (O U l.n))
     have hD8:=Lib.hid (dY (g:=gr) ((b6).trans (hC9.mono (b6).size)) hge (F x.TA x.t.length x.tc) (F x.OA x.o.length x.oc) (O U x.got) (O U x.sold) (O U x.missed) (uk l.D) (uk l.P) (O U l.n))
     clear Lr
     go_simp
     exact hK9 _ _ rfl (Sw.turn ⟨hD8.out,hN8.out⟩) (fun hq=>(hq (by decide)).elim)
    apply aa
    case h1 =>
     intro vs L9 w9 hG9 hC9 hB K9 hK9
     replace hC9:=hC9.after hG9 (by kernel_rfl)
     have d9:=fe hB 9
     simp only [d9] at hK9 ⊢
     simp only [Act.put,sA,s0,s1] at hK9
     go_simp
     exact hK9 _ _ rfl (Sw.on hG9 (by kernel_rfl) hC9) bR
    refine ax fun vs L9 w9 hL9 hC9 hB=>?_
    replace hC9:=hC9.done hL9 (by decide)
    have dl:=ag.eq (hB 11 _ rfl rfl (by decide))
    simp only [dl]
    clear hB dl
    obtain ⟨hD,hN⟩:=hC9
    obtain ⟨k0,k1,k2,k3,k4,k5,k6,k7⟩:=cells8 hN
    clear hN
    go_wp2
    refine bodyPost_ret (v:=.tuple #[aD x l,uk T]) (by simp [results,Tryz.results47,go_sem, *]) rfl (bg.mk HT.out (.inl ⟨rfl,HO.out⟩) hD)
   by_cases e2:m.length=2
   ·have z0:((m.length:Int) == 0)=false:=beq_false_of_ne (by omega)
    have z1:((m.length:Int) == 1)=false:=beq_false_of_ne (by omega)
    have z2:((m.length:Int) == 2)=true:=by rw [e2]; rfl
    have z3:((m.length:Int) == 3)=false:=beq_false_of_ne (by omega)
    have hm0:(0:Int) < (m.length:Int):=by omega
    have hn0:0 < m.length:=by omega
    have hm1:(1:Int) < (m.length:Int):=by omega
    have hn1:1 < m.length:=by omega
    obtain ⟨gN,cN,rN,hv,_,LN,_⟩:=bH hrow (by omega)
    injection hv with ea eb ec
    subst ea; subst ec
    clear eb
    have d0n:wr.cell? ⟨gN,0,none⟩=some (O U (m[0]'hn0)):=by rw [LN.cell]; exact jt hn0
    have d1n:wr.cell? ⟨gN,1,none⟩=some (O U (m[1]'hn1)):=by rw [LN.cell]; exact jt hn1
    obtain ⟨a0,ha0⟩ : ∃ a,m[0]'hn0=a:=⟨_,rfl⟩
    rw [ha0] at d0n
    obtain ⟨a1,ha1⟩ : ∃ a,m[1]'hn1=a:=⟨_,rfl⟩
    rw [ha1] at d1n
    have HR1:=HE.out
    rw [tL e2 hn0 hn1,ha0,ha1] at HR1
    have hc:=fun W hR=>qz x l w0 a0 a1 W hR hcap
    rw [← HR1] at hc
    obtain ⟨T,hT⟩ : ∃ T,iO R=T:=⟨_,rfl⟩
    unfold bg at hc
    rw [hT] at hc
    have HT:=Lib.hid hT
    clear hT HR1 HE HW1 HLEN HNS ha0 ha1
    go_wp2_with fail
    refine am (Sw 13 (fun W9=>Below wr.heap.size wr W9) (fun W9=>Below w.heap.size w W9∧iS W9 w.heap.size gr x l (eM x R))) (fun i w1 w2=>i ∉ [13]→Below w1.heap.size w1 w2) (by kernel_rfl) (by kernel_rfl) (by kernel_rfl) (Sw.start (Below.refl _ _).drew) ?_
    simp only [aw,Act.put,List.setIfInBounds_toArray,List.set_cons_zero,List.set_cons_succ,Nat.zero_add,Nat.reduceAdd]
    apply aa
    case h1 =>
     intro vs L9 w9 hG9 hC9 hB K9 hK9
     replace hC9:=sb hC9 hG9
     have q0:w9.cell? ⟨w.heap.size,0,none⟩=some (F x.TA x.t.length x.tc):=(K1.below hC9 K1.lt).cell 0
     have q1:w9.cell? ⟨w.heap.size,1,none⟩=some (F x.OA x.o.length x.oc):=(K1.below hC9 K1.lt).cell 1
     have q2:w9.cell? ⟨w.heap.size,2,none⟩=some (O U x.got):=(K1.below hC9 K1.lt).cell 2
     have q3:w9.cell? ⟨w.heap.size,3,none⟩=some (O U x.sold):=(K1.below hC9 K1.lt).cell 3
     have q4:w9.cell? ⟨w.heap.size,4,none⟩=some (O U x.missed):=(K1.below hC9 K1.lt).cell 4
     have q5:w9.cell? ⟨w.heap.size,5,none⟩=some (uk l.D):=(K1.below hC9 K1.lt).cell 5
     have q6:w9.cell? ⟨w.heap.size,6,none⟩=some (uk l.P):=(K1.below hC9 K1.lt).cell 6
     have q7:w9.cell? ⟨w.heap.size,7,none⟩=some (O U l.n):=(K1.below hC9 K1.lt).cell 7
     simp only [Act.put,sA,s0,s1] at hK9
     go_simp
     exact hK9 _ _ rfl (sy hG9 hC9) bR
    apply aa
    case h1 =>
     intro vs L9 w9 hG9 hC9 hB K9 hK9
     replace hC9:=sb hC9 hG9
     simp only [Act.put,sA,s0,s1] at hK9
     go_simp
     exact hK9 _ _ rfl (sy hG9 hC9) bR
    apply aa
    case h1 =>
     intro vs L9 w9 hG9 hC9 hB K9 hK9
     replace hC9:=sb hC9 hG9
     have d1:=fe hB 1
     simp only [d1] at hK9 ⊢
     simp only [Act.put,sA,s0,s1] at hK9
     go_simp
     exact hK9 _ _ rfl (sy hG9 hC9) bR
    apply aa
    case h1 =>
     intro vs L9 w9 hG9 hC9 hB K9 hK9
     replace hC9:=sb hC9 hG9
     have d2:=fe hB 2
     simp only [d2] at hK9 ⊢
     have q0:w9.cell? ⟨g8,0,none⟩=some (uk w0):=(hC9.cell LW8.lt).trans c80
     simp only [Act.put,sA,s0,s1] at hK9
     go_simp
     exact hK9 _ _ rfl (sy hG9 hC9) bR
    apply aa
    case h1 =>
     intro vs L9 w9 hG9 hC9 hB K9 hK9
     replace hC9:=sb hC9 hG9
     simp only [Act.put,sA,s0,s1] at hK9
     go_simp
     exact hK9 _ _ rfl (sy hG9 hC9) bR
    apply aa
    case h1 =>
     intro vs L9 w9 hG9 hC9 hB K9 hK9
     replace hC9:=sb hC9 hG9
     have d4:=fe hB 4
     simp only [d4] at hK9 ⊢
     simp only [Act.put,sA,s0,s1] at hK9
     go_simp
     exact hK9 _ _ rfl (sy hG9 hC9) bR
    apply aa
    case h1 =>
     intro vs L9 w9 hG9 hC9 hB K9 hK9
     replace hC9:=sb hC9 hG9
     have d5:=fe hB 5
     simp only [d5] at hK9 ⊢
     have q0:w9.cell? ⟨gN,0,none⟩=some (O U a0):=(hC9.cell LN.lt).trans d0n
     simp only [Act.put,sA,s0,s1] at hK9
     go_simp
     exact hK9 _ _ rfl (sy hG9 hC9) bR
    apply aa
    case h1 =>
     intro vs L9 w9 hG9 hC9 hB K9 hK9
     replace hC9:=sb hC9 hG9
     simp only [Act.put,sA,s0,s1] at hK9
     go_simp
     exact hK9 _ _ rfl (sy hG9 hC9) bR
    apply aa
    case h1 =>
     intro vs L9 w9 hG9 hC9 hB K9 hK9
     replace hC9:=sb hC9 hG9
     have d7:=fe hB 7
     simp only [d7] at hK9 ⊢
     simp only [Act.put,sA,s0,s1] at hK9
     go_simp
     exact hK9 _ _ rfl (sy hG9 hC9) bR
    apply aa
    case h1 =>
     intro vs L9 w9 hG9 hC9 hB K9 hK9
     replace hC9:=sb hC9 hG9
     have d8:=fe hB 8
     simp only [d8] at hK9 ⊢
     have q0:w9.cell? ⟨gN,1,none⟩=some (O U a1):=(hC9.cell LN.lt).trans d1n
     simp only [Act.put,sA,s0,s1] at hK9
     go_simp
     exact hK9 _ _ rfl (sy hG9 hC9) bR
    refine ak [13] (fun v w9=>∃ X:aL,v=.tuple #[aD X l,uk T]∧eK w9 w.heap.size x l (eM x R) (aD X l)) ?_ (fun vs L9 w9 hG9 hC9 hB K9 hK9=>?_) ?_
    next =>
     intro i9 hi9 hb9 ha9 v w1 w2 hv hT9
     have hb:=hT9 (fun hm=>by
      simp only [List.mem_cons,List.not_mem_nil,or_false] at hm hb9
      subst hm
      ·exact hb9 (by simp))
     obtain ⟨X,q1,q2⟩:=hv
     exact ⟨X,q1,q2.below hb⟩
    next =>
     replace hC9:=sb hC9 hG9
     have d0:=fe hB 0
     have d3:=fe hB 3
     have d6:=fe hB 6
     have d9:=fe hB 9
     simp only [d0,d3,d6,d9] at hK9 ⊢
     simp only [Act.put,sA,s0,s1] at hK9
     go_simp
     refine (hc w9 (hW6.then hC9)).mono ?_
     rintro en w8 ⟨v,rfl,hv,hb8⟩
     obtain ⟨X,rfl⟩:=hv.con
     exact hK9 _ _ _ rfl ⟨X,rfl,hv.lower (Nat.le_trans b6.size hC9.size)⟩ (Sw.stay hG9 (by kernel_rfl) (by decide) (hC9.trans (hb8.mono hC9.size))) (fun _=>hb8)
    refine ak [13] (fun v w9=>∃ X:aL,v=aD X l∧eK w9 w.heap.size x l (eM x R) (aD X l)) ?_ (fun vs L9 w9 hG9 hC9 hB K9 hK9=>?_) ?_
    next =>
     intro i9 hi9 hb9 ha9 v w1 w2 hv hT9
     have hb:=hT9 (fun hm=>by
      simp only [List.mem_cons,List.not_mem_nil,or_false] at hm hb9
      subst hm
      ·exact hb9 (by simp))
     obtain ⟨X,q1,q2⟩:=hv
     exact ⟨X,q1,q2.below hb⟩
    next =>
     replace hC9:=sb hC9 hG9
     simp only [Act.put,sA,s0,s1] at hK9
     obtain ⟨X,e0,hq⟩:=fs hB 10
     simp only [e0] at hK9 ⊢
     go_simp
     exact hK9 _ _ _ rfl ⟨X,rfl,hq⟩ (sy hG9 hC9) bR
    refine aa (uk T) (fun vs L9 w9 hG9 hC9 hB K9 hK9=>?_) ?_
    next =>
     replace hC9:=sb hC9 hG9
     obtain ⟨X,e0,hq⟩:=fs hB 10
     simp only [e0] at hK9 ⊢
     go_simp
     exact hK9 _ _ rfl (sy hG9 hC9) bR
    refine aa (undef) (fun vs L9 w9 hG9 hC9 hB K9 hK9=>?_) ?_
    next =>
     replace hC9:=hC9.here hG9
     obtain ⟨X,e0,hq⟩:=fs hB 11
     simp only [e0] at hK9 ⊢
     have Lr:=K2.below hC9 K2.lt
     obtain ⟨z0,z1,z2,z3,z4,z5,z6,z7⟩:=cells8 Lr
     obtain ⟨f0,f1,f2,f3,f4,f5,f6,f7⟩:=frz8 Lr
     have hN8:=Lib.hid (iS.put (X:=X) Lr hq)
     have hD8:=Lib.hid (dY (g:=gr) (b6.trans (hC9.mono b6.size)) hge (F X.TA X.t.length X.tc) (F X.OA X.o.length X.oc) (O U X.got) (O U X.sold) (O U X.missed) (uk l.D) (uk l.P) (O U l.n))
     clear Lr hq
     go_simp
     exact hK9 _ _ rfl (Sw.turn ⟨hD8.out,hN8.out⟩) (fun hq=>(hq (by decide)).elim)
    apply aa
    case h1 =>
     intro vs L9 w9 hG9 hC9 hB K9 hK9
     replace hC9:=hC9.after hG9 (by kernel_rfl)
     have d12:=fe hB 12
     simp only [d12] at hK9 ⊢
     simp only [Act.put,sA,s0,s1] at hK9
     go_simp
     exact hK9 _ _ rfl (Sw.on hG9 (by kernel_rfl) hC9) bR
    refine ax fun vs L9 w9 hL9 hC9 hB=>?_
    replace hC9:=hC9.done hL9 (by decide)
    have dl:=ag.eq (hB 14 _ rfl rfl (by decide))
    simp only [dl]
    clear hB dl
    obtain ⟨hD,X,hN,hV⟩:=hC9
    obtain ⟨k0,k1,k2,k3,k4,k5,k6,k7⟩:=cells8 hN
    clear hN
    go_wp2
    refine bodyPost_ret (v:=.tuple #[aD X l,uk T]) (by simp [results,Tryz.results47,go_sem, *]) rfl (bg.mk HT.out hV hD)
   by_cases e3:m.length=3
   ·have z0:((m.length:Int) == 0)=false:=beq_false_of_ne (by omega)
    have z1:((m.length:Int) == 1)=false:=beq_false_of_ne (by omega)
    have z2:((m.length:Int) == 2)=false:=beq_false_of_ne (by omega)
    have z3:((m.length:Int) == 3)=true:=by rw [e3]; rfl
    have hm0:(0:Int) < (m.length:Int):=by omega
    have hn0:0 < m.length:=by omega
    have hm1:(1:Int) < (m.length:Int):=by omega
    have hn1:1 < m.length:=by omega
    have hm2:(2:Int) < (m.length:Int):=by omega
    have hn2:2 < m.length:=by omega
    obtain ⟨gN,cN,rN,hv,_,LN,_⟩:=bH hrow (by omega)
    injection hv with ea eb ec
    subst ea; subst ec
    clear eb
    have d0n:wr.cell? ⟨gN,0,none⟩=some (O U (m[0]'hn0)):=by rw [LN.cell]; exact jt hn0
    have d1n:wr.cell? ⟨gN,1,none⟩=some (O U (m[1]'hn1)):=by rw [LN.cell]; exact jt hn1
    have d2n:wr.cell? ⟨gN,2,none⟩=some (O U (m[2]'hn2)):=by rw [LN.cell]; exact jt hn2
    obtain ⟨a0,ha0⟩ : ∃ a,m[0]'hn0=a:=⟨_,rfl⟩
    rw [ha0] at d0n
    obtain ⟨a1,ha1⟩ : ∃ a,m[1]'hn1=a:=⟨_,rfl⟩
    rw [ha1] at d1n
    obtain ⟨a2,ha2⟩ : ∃ a,m[2]'hn2=a:=⟨_,rfl⟩
    rw [ha2] at d2n
    have HR1:=HE.out
    rw [r5 e3 hn0 hn1 hn2,ha0,ha1,ha2] at HR1
    clear ha0 ha1 ha2 HE HW1 HLEN HNS
    by_cases h0:w0=⟨#[115,104,111,119]⟩
    ·subst h0
     have HR2:R=bJ x ⟨2,a0,a1,a2⟩:=by rw [HR1]; unfold cr; rw [if_pos rfl]; rfl
     have hc:=fun W hR=>fc x l ⟨2,a0,a1,a2⟩ W hR hcap
     rw [← HR2] at hc
     obtain ⟨T,hT⟩ : ∃ T,iO R=T:=⟨_,rfl⟩
     unfold bg at hc
     rw [hT] at hc
     have HT:=Lib.hid hT
     clear hT HR1 HR2
     go_wp2_with fail
     refine am (Sw 14 (fun W9=>Below wr.heap.size wr W9) (fun W9=>Below w.heap.size w W9∧iS W9 w.heap.size gr x l (eM x R))) (fun i w1 w2=>i ∉ [14]→Below w1.heap.size w1 w2) (by kernel_rfl) (by kernel_rfl) (by kernel_rfl) (Sw.start (Below.refl _ _).drew) ?_
     simp only [aw,Act.put,List.setIfInBounds_toArray,List.set_cons_zero,List.set_cons_succ,Nat.zero_add,Nat.reduceAdd]
     apply aa
     case h1 =>
      intro vs L9 w9 hG9 hC9 hB K9 hK9
      replace hC9:=sb hC9 hG9
      have q0:w9.cell? ⟨w.heap.size,0,none⟩=some (F x.TA x.t.length x.tc):=(K1.below hC9 K1.lt).cell 0
      have q1:w9.cell? ⟨w.heap.size,1,none⟩=some (F x.OA x.o.length x.oc):=(K1.below hC9 K1.lt).cell 1
      have q2:w9.cell? ⟨w.heap.size,2,none⟩=some (O U x.got):=(K1.below hC9 K1.lt).cell 2
      have q3:w9.cell? ⟨w.heap.size,3,none⟩=some (O U x.sold):=(K1.below hC9 K1.lt).cell 3
      have q4:w9.cell? ⟨w.heap.size,4,none⟩=some (O U x.missed):=(K1.below hC9 K1.lt).cell 4
      have q5:w9.cell? ⟨w.heap.size,5,none⟩=some (uk l.D):=(K1.below hC9 K1.lt).cell 5
      have q6:w9.cell? ⟨w.heap.size,6,none⟩=some (uk l.P):=(K1.below hC9 K1.lt).cell 6
      have q7:w9.cell? ⟨w.heap.size,7,none⟩=some (O U l.n):=(K1.below hC9 K1.lt).cell 7
      simp only [Act.put,sA,s0,s1] at hK9
      go_simp
      exact hK9 _ _ rfl (sy hG9 hC9) bR
     apply aa
     case h1 =>
      intro vs L9 w9 hG9 hC9 hB K9 hK9
      replace hC9:=sb hC9 hG9
      simp only [Act.put,sA,s0,s1] at hK9
      go_simp
      exact hK9 _ _ rfl (sy hG9 hC9) bR
     apply aa
     case h1 =>
      intro vs L9 w9 hG9 hC9 hB K9 hK9
      replace hC9:=sb hC9 hG9
      have d1:=fe hB 1
      simp only [d1] at hK9 ⊢
      simp only [Act.put,sA,s0,s1] at hK9
      go_simp
      exact hK9 _ _ rfl (sy hG9 hC9) bR
     apply aa
     case h1 =>
      intro vs L9 w9 hG9 hC9 hB K9 hK9
      replace hC9:=sb hC9 hG9
      have d2:=fe hB 2
      simp only [d2] at hK9 ⊢
      have q0:w9.cell? ⟨gN,0,none⟩=some (O U a0):=(hC9.cell LN.lt).trans d0n
      simp only [Act.put,sA,s0,s1] at hK9
      go_simp
      exact hK9 _ _ rfl (sy hG9 hC9) bR
     apply aa
     case h1 =>
      intro vs L9 w9 hG9 hC9 hB K9 hK9
      replace hC9:=sb hC9 hG9
      simp only [Act.put,sA,s0,s1] at hK9
      go_simp
      exact hK9 _ _ rfl (sy hG9 hC9) bR
     apply aa
     case h1 =>
      intro vs L9 w9 hG9 hC9 hB K9 hK9
      replace hC9:=sb hC9 hG9
      have d4:=fe hB 4
      simp only [d4] at hK9 ⊢
      simp only [Act.put,sA,s0,s1] at hK9
      go_simp
      exact hK9 _ _ rfl (sy hG9 hC9) bR
     apply aa
     case h1 =>
      intro vs L9 w9 hG9 hC9 hB K9 hK9
      replace hC9:=sb hC9 hG9
      have d5:=fe hB 5
      simp only [d5] at hK9 ⊢
      have q0:w9.cell? ⟨gN,1,none⟩=some (O U a1):=(hC9.cell LN.lt).trans d1n
      simp only [Act.put,sA,s0,s1] at hK9
      go_simp
      exact hK9 _ _ rfl (sy hG9 hC9) bR
     apply aa
     case h1 =>
      intro vs L9 w9 hG9 hC9 hB K9 hK9
      replace hC9:=sb hC9 hG9
      simp only [Act.put,sA,s0,s1] at hK9
      go_simp
      exact hK9 _ _ rfl (sy hG9 hC9) bR
     apply aa
     case h1 =>
      intro vs L9 w9 hG9 hC9 hB K9 hK9
      replace hC9:=sb hC9 hG9
      have d7:=fe hB 7
      simp only [d7] at hK9 ⊢
      simp only [Act.put,sA,s0,s1] at hK9
      go_simp
      exact hK9 _ _ rfl (sy hG9 hC9) bR
     apply aa
     case h1 =>
      intro vs L9 w9 hG9 hC9 hB K9 hK9
      replace hC9:=sb hC9 hG9
      have d8:=fe hB 8
      simp only [d8] at hK9 ⊢
      have q0:w9.cell? ⟨gN,2,none⟩=some (O U a2):=(hC9.cell LN.lt).trans d2n
      simp only [Act.put,sA,s0,s1] at hK9
      go_simp
      exact hK9 _ _ rfl (sy hG9 hC9) bR
     apply aa
     case h1 =>
      intro vs L9 w9 hG9 hC9 hB K9 hK9
      replace hC9:=sb hC9 hG9
      have d3:=fe hB 3
      have d6:=fe hB 6
      have d9:=fe hB 9
      simp only [d3,d6,d9] at hK9 ⊢
      simp only [Act.put,sA,s0,s1] at hK9
      go_simp
      exact hK9 _ _ rfl (sy hG9 hC9) bR
     refine ak [14] (fun v w9=>∃ X:aL,v=.tuple #[aD X l,uk T]∧eK w9 w.heap.size x l (eM x R) (aD X l)) ?_ (fun vs L9 w9 hG9 hC9 hB K9 hK9=>?_) ?_
     next =>
      intro i9 hi9 hb9 ha9 v w1 w2 hv hT9
      have hb:=hT9 (fun hm=>by
       simp only [List.mem_cons,List.not_mem_nil,or_false] at hm hb9
       subst hm
       ·exact hb9 (by simp))
      obtain ⟨X,q1,q2⟩:=hv
      exact ⟨X,q1,q2.below hb⟩
     next =>
      replace hC9:=sb hC9 hG9
      have d0:=fe hB 0
      have d10:=fe hB 10
      simp only [d0,d10] at hK9 ⊢
      simp only [Act.put,sA,s0,s1] at hK9
      go_simp
      refine (hc w9 (hW6.then hC9)).mono ?_
      rintro en w8 ⟨v,rfl,hv,hb8⟩
      obtain ⟨X,rfl⟩:=hv.con
      exact hK9 _ _ _ rfl ⟨X,rfl,hv.lower (Nat.le_trans b6.size hC9.size)⟩ (Sw.stay hG9 (by kernel_rfl) (by decide) (hC9.trans (hb8.mono hC9.size))) (fun _=>hb8)
     refine ak [14] (fun v w9=>∃ X:aL,v=aD X l∧eK w9 w.heap.size x l (eM x R) (aD X l)) ?_ (fun vs L9 w9 hG9 hC9 hB K9 hK9=>?_) ?_
     next =>
      intro i9 hi9 hb9 ha9 v w1 w2 hv hT9
      have hb:=hT9 (fun hm=>by
       simp only [List.mem_cons,List.not_mem_nil,or_false] at hm hb9
       subst hm
       ·exact hb9 (by simp))
      obtain ⟨X,q1,q2⟩:=hv
      exact ⟨X,q1,q2.below hb⟩
     next =>
      replace hC9:=sb hC9 hG9
      simp only [Act.put,sA,s0,s1] at hK9
      obtain ⟨X,e0,hq⟩:=fs hB 11
      simp only [e0] at hK9 ⊢
      go_simp
      exact hK9 _ _ _ rfl ⟨X,rfl,hq⟩ (sy hG9 hC9) bR
     refine aa (uk T) (fun vs L9 w9 hG9 hC9 hB K9 hK9=>?_) ?_
     next =>
      replace hC9:=sb hC9 hG9
      obtain ⟨X,e0,hq⟩:=fs hB 11
      simp only [e0] at hK9 ⊢
      go_simp
      exact hK9 _ _ rfl (sy hG9 hC9) bR
     refine aa (undef) (fun vs L9 w9 hG9 hC9 hB K9 hK9=>?_) ?_
     next =>
      replace hC9:=hC9.here hG9
      obtain ⟨X,e0,hq⟩:=fs hB 12
      simp only [e0] at hK9 ⊢
      have Lr:=K2.below hC9 K2.lt
      obtain ⟨z0,z1,z2,z3,z4,z5,z6,z7⟩:=cells8 Lr
      obtain ⟨f0,f1,f2,f3,f4,f5,f6,f7⟩:=frz8 Lr
      have hN8:=Lib.hid (iS.put (X:=X) Lr hq)
      have hD8:=Lib.hid (dY (g:=gr) (b6.trans (hC9.mono b6.size)) hge (F X.TA X.t.length X.tc) (F X.OA X.o.length X.oc) (O U X.got) (O U X.sold) (O U X.missed) (uk l.D) (uk l.P) (O U l.n))
      clear Lr hq
      go_simp
      exact hK9 _ _ rfl (Sw.turn ⟨hD8.out,hN8.out⟩) (fun hq=>(hq (by decide)).elim)
     apply aa
     case h1 =>
      intro vs L9 w9 hG9 hC9 hB K9 hK9
      replace hC9:=hC9.after hG9 (by kernel_rfl)
      have d13:=fe hB 13
      simp only [d13] at hK9 ⊢
      simp only [Act.put,sA,s0,s1] at hK9
      go_simp
      exact hK9 _ _ rfl (Sw.on hG9 (by kernel_rfl) hC9) bR
     refine ax fun vs L9 w9 hL9 hC9 hB=>?_
     replace hC9:=hC9.done hL9 (by decide)
     have dl:=ag.eq (hB 15 _ rfl rfl (by decide))
     simp only [dl]
     clear hB dl
     obtain ⟨hD,X,hN,hV⟩:=hC9
     obtain ⟨k0,k1,k2,k3,k4,k5,k6,k7⟩:=cells8 hN
     clear hN
     go_wp2
     refine bodyPost_ret (v:=.tuple #[aD X l,uk T]) (by simp [results,Tryz.results47,go_sem, *]) rfl (bg.mk HT.out hV hD)
    have f0:(w0.toList == [115,104,111,119])=false:=bC h0
    by_cases h1:w0=⟨#[98,97,99,107]⟩
    ·subst h1
     have HR2:R=bJ x ⟨3,a0,a1,a2⟩:=by rw [HR1]; unfold cr; rw [if_neg (by decide),if_pos rfl]; rfl
     have hc:=fun W hR=>fc x l ⟨3,a0,a1,a2⟩ W hR hcap
     rw [← HR2] at hc
     obtain ⟨T,hT⟩ : ∃ T,iO R=T:=⟨_,rfl⟩
     unfold bg at hc
     rw [hT] at hc
     have HT:=Lib.hid hT
     clear hT HR1 HR2
     go_wp2_with fail
     refine am (Sw 14 (fun W9=>Below wr.heap.size wr W9) (fun W9=>Below w.heap.size w W9∧iS W9 w.heap.size gr x l (eM x R))) (fun i w1 w2=>i ∉ [14]→Below w1.heap.size w1 w2) (by kernel_rfl) (by kernel_rfl) (by kernel_rfl) (Sw.start (Below.refl _ _).drew) ?_
     simp only [aw,Act.put,List.setIfInBounds_toArray,List.set_cons_zero,List.set_cons_succ,Nat.zero_add,Nat.reduceAdd]
     apply aa
     case h1 =>
      intro vs L9 w9 hG9 hC9 hB K9 hK9
      replace hC9:=sb hC9 hG9
      have q0:w9.cell? ⟨w.heap.size,0,none⟩=some (F x.TA x.t.length x.tc):=(K1.below hC9 K1.lt).cell 0
      have q1:w9.cell? ⟨w.heap.size,1,none⟩=some (F x.OA x.o.length x.oc):=(K1.below hC9 K1.lt).cell 1
      have q2:w9.cell? ⟨w.heap.size,2,none⟩=some (O U x.got):=(K1.below hC9 K1.lt).cell 2
      have q3:w9.cell? ⟨w.heap.size,3,none⟩=some (O U x.sold):=(K1.below hC9 K1.lt).cell 3
      have q4:w9.cell? ⟨w.heap.size,4,none⟩=some (O U x.missed):=(K1.below hC9 K1.lt).cell 4
      have q5:w9.cell? ⟨w.heap.size,5,none⟩=some (uk l.D):=(K1.below hC9 K1.lt).cell 5
      have q6:w9.cell? ⟨w.heap.size,6,none⟩=some (uk l.P):=(K1.below hC9 K1.lt).cell 6
      have q7:w9.cell? ⟨w.heap.size,7,none⟩=some (O U l.n):=(K1.below hC9 K1.lt).cell 7
      simp only [Act.put,sA,s0,s1] at hK9
      go_simp
      exact hK9 _ _ rfl (sy hG9 hC9) bR
     apply aa
     case h1 =>
      intro vs L9 w9 hG9 hC9 hB K9 hK9
      replace hC9:=sb hC9 hG9
      simp only [Act.put,sA,s0,s1] at hK9
      go_simp
      exact hK9 _ _ rfl (sy hG9 hC9) bR
     apply aa
     case h1 =>
      intro vs L9 w9 hG9 hC9 hB K9 hK9
      replace hC9:=sb hC9 hG9
      have d1:=fe hB 1
      simp only [d1] at hK9 ⊢
      simp only [Act.put,sA,s0,s1] at hK9
      go_simp
      exact hK9 _ _ rfl (sy hG9 hC9) bR
     apply aa
     case h1 =>
      intro vs L9 w9 hG9 hC9 hB K9 hK9
      replace hC9:=sb hC9 hG9
      have d2:=fe hB 2
      simp only [d2] at hK9 ⊢
      have q0:w9.cell? ⟨gN,0,none⟩=some (O U a0):=(hC9.cell LN.lt).trans d0n
      simp only [Act.put,sA,s0,s1] at hK9
      go_simp
      exact hK9 _ _ rfl (sy hG9 hC9) bR
     apply aa
     case h1 =>
      intro vs L9 w9 hG9 hC9 hB K9 hK9
      replace hC9:=sb hC9 hG9
      simp only [Act.put,sA,s0,s1] at hK9
      go_simp
      exact hK9 _ _ rfl (sy hG9 hC9) bR
     apply aa
     case h1 =>
      intro vs L9 w9 hG9 hC9 hB K9 hK9
      replace hC9:=sb hC9 hG9
      have d4:=fe hB 4
      simp only [d4] at hK9 ⊢
      simp only [Act.put,sA,s0,s1] at hK9
      go_simp
      exact hK9 _ _ rfl (sy hG9 hC9) bR
     apply aa
     case h1 =>
      intro vs L9 w9 hG9 hC9 hB K9 hK9
      replace hC9:=sb hC9 hG9
      have d5:=fe hB 5
      simp only [d5] at hK9 ⊢
      have q0:w9.cell? ⟨gN,1,none⟩=some (O U a1):=(hC9.cell LN.lt).trans d1n
      simp only [Act.put,sA,s0,s1] at hK9
      go_simp
      exact hK9 _ _ rfl (sy hG9 hC9) bR
     apply aa
     case h1 =>
      intro vs L9 w9 hG9 hC9 hB K9 hK9
      replace hC9:=sb hC9 hG9
      simp only [Act.put,sA,s0,s1] at hK9
      go_simp
      exact hK9 _ _ rfl (sy hG9 hC9) bR
     apply aa
     case h1 =>
      intro vs L9 w9 hG9 hC9 hB K9 hK9
      replace hC9:=sb hC9 hG9
      have d7:=fe hB 7
      simp only [d7] at hK9 ⊢
      simp only [Act.put,sA,s0,s1] at hK9
      go_simp
      exact hK9 _ _ rfl (sy hG9 hC9) bR
     apply aa
     case h1 =>
      intro vs L9 w9 hG9 hC9 hB K9 hK9
      replace hC9:=sb hC9 hG9
      have d8:=fe hB 8
      simp only [d8] at hK9 ⊢
      have q0:w9.cell? ⟨gN,2,none⟩=some (O U a2):=(hC9.cell LN.lt).trans d2n
      simp only [Act.put,sA,s0,s1] at hK9
      go_simp
      exact hK9 _ _ rfl (sy hG9 hC9) bR
     apply aa
     case h1 =>
      intro vs L9 w9 hG9 hC9 hB K9 hK9
      replace hC9:=sb hC9 hG9
      have d3:=fe hB 3
      have d6:=fe hB 6
      have d9:=fe hB 9
      simp only [d3,d6,d9] at hK9 ⊢
      simp only [Act.put,sA,s0,s1] at hK9
      go_simp
      exact hK9 _ _ rfl (sy hG9 hC9) bR
     refine ak [14] (fun v w9=>∃ X:aL,v=.tuple #[aD X l,uk T]∧eK w9 w.heap.size x l (eM x R) (aD X l)) ?_ (fun vs L9 w9 hG9 hC9 hB K9 hK9=>?_) ?_
     next =>
      intro i9 hi9 hb9 ha9 v w1 w2 hv hT9
      have hb:=hT9 (fun hm=>by
       simp only [List.mem_cons,List.not_mem_nil,or_false] at hm hb9
       subst hm
       ·exact hb9 (by simp))
      obtain ⟨X,q1,q2⟩:=hv
      exact ⟨X,q1,q2.below hb⟩
     next =>
      replace hC9:=sb hC9 hG9
      have d0:=fe hB 0
      have d10:=fe hB 10
      simp only [d0,d10] at hK9 ⊢
      simp only [Act.put,sA,s0,s1] at hK9
      go_simp
      refine (hc w9 (hW6.then hC9)).mono ?_
      rintro en w8 ⟨v,rfl,hv,hb8⟩
      obtain ⟨X,rfl⟩:=hv.con
      exact hK9 _ _ _ rfl ⟨X,rfl,hv.lower (Nat.le_trans b6.size hC9.size)⟩ (Sw.stay hG9 (by kernel_rfl) (by decide) (hC9.trans (hb8.mono hC9.size))) (fun _=>hb8)
     refine ak [14] (fun v w9=>∃ X:aL,v=aD X l∧eK w9 w.heap.size x l (eM x R) (aD X l)) ?_ (fun vs L9 w9 hG9 hC9 hB K9 hK9=>?_) ?_
     next =>
      intro i9 hi9 hb9 ha9 v w1 w2 hv hT9
      have hb:=hT9 (fun hm=>by
       simp only [List.mem_cons,List.not_mem_nil,or_false] at hm hb9
       subst hm
       ·exact hb9 (by simp))
      obtain ⟨X,q1,q2⟩:=hv
      exact ⟨X,q1,q2.below hb⟩
     next =>
      replace hC9:=sb hC9 hG9
      simp only [Act.put,sA,s0,s1] at hK9
      obtain ⟨X,e0,hq⟩:=fs hB 11
      simp only [e0] at hK9 ⊢
      go_simp
      exact hK9 _ _ _ rfl ⟨X,rfl,hq⟩ (sy hG9 hC9) bR
     refine aa (uk T) (fun vs L9 w9 hG9 hC9 hB K9 hK9=>?_) ?_
     next =>
      replace hC9:=sb hC9 hG9
      obtain ⟨X,e0,hq⟩:=fs hB 11
      simp only [e0] at hK9 ⊢
      go_simp
      exact hK9 _ _ rfl (sy hG9 hC9) bR
     refine aa (undef) (fun vs L9 w9 hG9 hC9 hB K9 hK9=>?_) ?_
     next =>
      replace hC9:=hC9.here hG9
      obtain ⟨X,e0,hq⟩:=fs hB 12
      simp only [e0] at hK9 ⊢
      have Lr:=K2.below hC9 K2.lt
      obtain ⟨z0,z1,z2,z3,z4,z5,z6,z7⟩:=cells8 Lr
      obtain ⟨f0,f1,f2,f3,f4,f5,f6,f7⟩:=frz8 Lr
      have hN8:=Lib.hid (iS.put (X:=X) Lr hq)
      have hD8:=Lib.hid (dY (g:=gr) (b6.trans (hC9.mono b6.size)) hge (F X.TA X.t.length X.tc) (F X.OA X.o.length X.oc) (O U X.got) (O U X.sold) (O U X.missed) (uk l.D) (uk l.P) (O U l.n))
      clear Lr hq
      go_simp
      exact hK9 _ _ rfl (Sw.turn ⟨hD8.out,hN8.out⟩) (fun hq=>(hq (by decide)).elim)
     apply aa
     case h1 =>
      intro vs L9 w9 hG9 hC9 hB K9 hK9
      replace hC9:=hC9.after hG9 (by kernel_rfl)
      have d13:=fe hB 13
      simp only [d13] at hK9 ⊢
      simp only [Act.put,sA,s0,s1] at hK9
      go_simp
      exact hK9 _ _ rfl (Sw.on hG9 (by kernel_rfl) hC9) bR
     refine ax fun vs L9 w9 hL9 hC9 hB=>?_
     replace hC9:=hC9.done hL9 (by decide)
     have dl:=ag.eq (hB 15 _ rfl rfl (by decide))
     simp only [dl]
     clear hB dl
     obtain ⟨hD,X,hN,hV⟩:=hC9
     obtain ⟨k0,k1,k2,k3,k4,k5,k6,k7⟩:=cells8 hN
     clear hN
     go_wp2
     refine bodyPost_ret (v:=.tuple #[aD X l,uk T]) (by simp [results,Tryz.results47,go_sem, *]) rfl (bg.mk HT.out hV hD)
    have f1:(w0.toList == [98,97,99,107])=false:=bC h1
    by_cases h2:w0=⟨#[115,101,108,108]⟩
    ·subst h2
     have HR2:R=bJ x ⟨4,a0,a1,a2⟩:=by rw [HR1]; unfold cr; rw [if_neg (by decide),if_neg (by decide),if_pos rfl]; rfl
     have hc:=fun W hR=>fc x l ⟨4,a0,a1,a2⟩ W hR hcap
     rw [← HR2] at hc
     obtain ⟨T,hT⟩ : ∃ T,iO R=T:=⟨_,rfl⟩
     unfold bg at hc
     rw [hT] at hc
     have HT:=Lib.hid hT
     clear hT HR1 HR2
     go_wp2_with fail
     refine am (Sw 14 (fun W9=>Below wr.heap.size wr W9) (fun W9=>Below w.heap.size w W9∧iS W9 w.heap.size gr x l (eM x R))) (fun i w1 w2=>i ∉ [14]→Below w1.heap.size w1 w2) (by kernel_rfl) (by kernel_rfl) (by kernel_rfl) (Sw.start (Below.refl _ _).drew) ?_
     simp only [aw,Act.put,List.setIfInBounds_toArray,List.set_cons_zero,List.set_cons_succ,Nat.zero_add,Nat.reduceAdd]
     apply aa
     case h1 =>
      intro vs L9 w9 hG9 hC9 hB K9 hK9
      replace hC9:=sb hC9 hG9
      have q0:w9.cell? ⟨w.heap.size,0,none⟩=some (F x.TA x.t.length x.tc):=(K1.below hC9 K1.lt).cell 0
      have q1:w9.cell? ⟨w.heap.size,1,none⟩=some (F x.OA x.o.length x.oc):=(K1.below hC9 K1.lt).cell 1
      have q2:w9.cell? ⟨w.heap.size,2,none⟩=some (O U x.got):=(K1.below hC9 K1.lt).cell 2
      have q3:w9.cell? ⟨w.heap.size,3,none⟩=some (O U x.sold):=(K1.below hC9 K1.lt).cell 3
      have q4:w9.cell? ⟨w.heap.size,4,none⟩=some (O U x.missed):=(K1.below hC9 K1.lt).cell 4
      have q5:w9.cell? ⟨w.heap.size,5,none⟩=some (uk l.D):=(K1.below hC9 K1.lt).cell 5
      have q6:w9.cell? ⟨w.heap.size,6,none⟩=some (uk l.P):=(K1.below hC9 K1.lt).cell 6
      have q7:w9.cell? ⟨w.heap.size,7,none⟩=some (O U l.n):=(K1.below hC9 K1.lt).cell 7
      simp only [Act.put,sA,s0,s1] at hK9
      go_simp
      exact hK9 _ _ rfl (sy hG9 hC9) bR
     apply aa
     case h1 =>
      intro vs L9 w9 hG9 hC9 hB K9 hK9
      replace hC9:=sb hC9 hG9
      simp only [Act.put,sA,s0,s1] at hK9
      go_simp
      exact hK9 _ _ rfl (sy hG9 hC9) bR
     apply aa
     case h1 =>
      intro vs L9 w9 hG9 hC9 hB K9 hK9
      replace hC9:=sb hC9 hG9
      have d1:=fe hB 1
      simp only [d1] at hK9 ⊢
      simp only [Act.put,sA,s0,s1] at hK9
      go_simp
      exact hK9 _ _ rfl (sy hG9 hC9) bR
     apply aa
     case h1 =>
      intro vs L9 w9 hG9 hC9 hB K9 hK9
      replace hC9:=sb hC9 hG9
      have d2:=fe hB 2
      simp only [d2] at hK9 ⊢
      have q0:w9.cell? ⟨gN,0,none⟩=some (O U a0):=(hC9.cell LN.lt).trans d0n
      simp only [Act.put,sA,s0,s1] at hK9
      go_simp
      exact hK9 _ _ rfl (sy hG9 hC9) bR
     apply aa
     case h1 =>
      intro vs L9 w9 hG9 hC9 hB K9 hK9
      replace hC9:=sb hC9 hG9
      simp only [Act.put,sA,s0,s1] at hK9
      go_simp
      exact hK9 _ _ rfl (sy hG9 hC9) bR
     apply aa
     case h1 =>
      intro vs L9 w9 hG9 hC9 hB K9 hK9
      replace hC9:=sb hC9 hG9
      have d4:=fe hB 4
      simp only [d4] at hK9 ⊢
      simp only [Act.put,sA,s0,s1] at hK9
      go_simp
      exact hK9 _ _ rfl (sy hG9 hC9) bR
     apply aa
     case h1 =>
      intro vs L9 w9 hG9 hC9 hB K9 hK9
      replace hC9:=sb hC9 hG9
      have d5:=fe hB 5
      simp only [d5] at hK9 ⊢
      have q0:w9.cell? ⟨gN,1,none⟩=some (O U a1):=(hC9.cell LN.lt).trans d1n
      simp only [Act.put,sA,s0,s1] at hK9
      go_simp
      exact hK9 _ _ rfl (sy hG9 hC9) bR
     apply aa
     case h1 =>
      intro vs L9 w9 hG9 hC9 hB K9 hK9
      replace hC9:=sb hC9 hG9
      simp only [Act.put,sA,s0,s1] at hK9
      go_simp
      exact hK9 _ _ rfl (sy hG9 hC9) bR
     apply aa
     case h1 =>
      intro vs L9 w9 hG9 hC9 hB K9 hK9
      replace hC9:=sb hC9 hG9
      have d7:=fe hB 7
      simp only [d7] at hK9 ⊢
      simp only [Act.put,sA,s0,s1] at hK9
      go_simp
      exact hK9 _ _ rfl (sy hG9 hC9) bR
     apply aa
     case h1 =>
      intro vs L9 w9 hG9 hC9 hB K9 hK9
      replace hC9:=sb hC9 hG9
      have d8:=fe hB 8
      simp only [d8] at hK9 ⊢
      have q0:w9.cell? ⟨gN,2,none⟩=some (O U a2):=(hC9.cell LN.lt).trans d2n
      simp only [Act.put,sA,s0,s1] at hK9
      go_simp
      exact hK9 _ _ rfl (sy hG9 hC9) bR
     apply aa
     case h1 =>
      intro vs L9 w9 hG9 hC9 hB K9 hK9
      replace hC9:=sb hC9 hG9
      have d3:=fe hB 3
      have d6:=fe hB 6
      have d9:=fe hB 9
      simp only [d3,d6,d9] at hK9 ⊢
      simp only [Act.put,sA,s0,s1] at hK9
      go_simp
      exact hK9 _ _ rfl (sy hG9 hC9) bR
     refine ak [14] (fun v w9=>∃ X:aL,v=.tuple #[aD X l,uk T]∧eK w9 w.heap.size x l (eM x R) (aD X l)) ?_ (fun vs L9 w9 hG9 hC9 hB K9 hK9=>?_) ?_
     next =>
      intro i9 hi9 hb9 ha9 v w1 w2 hv hT9
      have hb:=hT9 (fun hm=>by
       simp only [List.mem_cons,List.not_mem_nil,or_false] at hm hb9
       subst hm
       ·exact hb9 (by simp))
      obtain ⟨X,q1,q2⟩:=hv
      exact ⟨X,q1,q2.below hb⟩
     next =>
      replace hC9:=sb hC9 hG9
      have d0:=fe hB 0
      have d10:=fe hB 10
      simp only [d0,d10] at hK9 ⊢
      simp only [Act.put,sA,s0,s1] at hK9
      go_simp
      refine (hc w9 (hW6.then hC9)).mono ?_
      rintro en w8 ⟨v,rfl,hv,hb8⟩
      obtain ⟨X,rfl⟩:=hv.con
      exact hK9 _ _ _ rfl ⟨X,rfl,hv.lower (Nat.le_trans b6.size hC9.size)⟩ (Sw.stay hG9 (by kernel_rfl) (by decide) (hC9.trans (hb8.mono hC9.size))) (fun _=>hb8)
     refine ak [14] (fun v w9=>∃ X:aL,v=aD X l∧eK w9 w.heap.size x l (eM x R) (aD X l)) ?_ (fun vs L9 w9 hG9 hC9 hB K9 hK9=>?_) ?_
     next =>
      intro i9 hi9 hb9 ha9 v w1 w2 hv hT9
      have hb:=hT9 (fun hm=>by
       simp only [List.mem_cons,List.not_mem_nil,or_false] at hm hb9
       subst hm
       ·exact hb9 (by simp))
      obtain ⟨X,q1,q2⟩:=hv
      exact ⟨X,q1,q2.below hb⟩
     next =>
      replace hC9:=sb hC9 hG9
      simp only [Act.put,sA,s0,s1] at hK9
      obtain ⟨X,e0,hq⟩:=fs hB 11
      simp only [e0] at hK9 ⊢
      go_simp
      exact hK9 _ _ _ rfl ⟨X,rfl,hq⟩ (sy hG9 hC9) bR
     refine aa (uk T) (fun vs L9 w9 hG9 hC9 hB K9 hK9=>?_) ?_
     next =>
      replace hC9:=sb hC9 hG9
      obtain ⟨X,e0,hq⟩:=fs hB 11
      simp only [e0] at hK9 ⊢
      go_simp
      exact hK9 _ _ rfl (sy hG9 hC9) bR
     refine aa (undef) (fun vs L9 w9 hG9 hC9 hB K9 hK9=>?_) ?_
     next =>
      replace hC9:=hC9.here hG9
      obtain ⟨X,e0,hq⟩:=fs hB 12
      simp only [e0] at hK9 ⊢
      have Lr:=K2.below hC9 K2.lt
      obtain ⟨z0,z1,z2,z3,z4,z5,z6,z7⟩:=cells8 Lr
      obtain ⟨f0,f1,f2,f3,f4,f5,f6,f7⟩:=frz8 Lr
      have hN8:=Lib.hid (iS.put (X:=X) Lr hq)
      have hD8:=Lib.hid (dY (g:=gr) (b6.trans (hC9.mono b6.size)) hge (F X.TA X.t.length X.tc) (F X.OA X.o.length X.oc) (O U X.got) (O U X.sold) (O U X.missed) (uk l.D) (uk l.P) (O U l.n))
      clear Lr hq
      go_simp
      exact hK9 _ _ rfl (Sw.turn ⟨hD8.out,hN8.out⟩) (fun hq=>(hq (by decide)).elim)
     apply aa
     case h1 =>
      intro vs L9 w9 hG9 hC9 hB K9 hK9
      replace hC9:=hC9.after hG9 (by kernel_rfl)
      have d13:=fe hB 13
      simp only [d13] at hK9 ⊢
      simp only [Act.put,sA,s0,s1] at hK9
      go_simp
      exact hK9 _ _ rfl (Sw.on hG9 (by kernel_rfl) hC9) bR
     refine ax fun vs L9 w9 hL9 hC9 hB=>?_
     replace hC9:=hC9.done hL9 (by decide)
     have dl:=ag.eq (hB 15 _ rfl rfl (by decide))
     simp only [dl]
     clear hB dl
     obtain ⟨hD,X,hN,hV⟩:=hC9
     obtain ⟨k0,k1,k2,k3,k4,k5,k6,k7⟩:=cells8 hN
     clear hN
     go_wp2
     refine bodyPost_ret (v:=.tuple #[aD X l,uk T]) (by simp [results,Tryz.results47,go_sem, *]) rfl (bg.mk HT.out hV hD)
    have f2:(w0.toList == [115,101,108,108])=false:=bC h2
    by_cases h3:w0=⟨#[109,111,118,101]⟩
    ·subst h3
     have HR2:R=bJ x ⟨6,a0,a1,a2⟩:=by rw [HR1]; unfold cr; rw [if_neg (by decide),if_neg (by decide),if_neg (by decide),if_pos rfl]; rfl
     have hc:=fun W hR=>fc x l ⟨6,a0,a1,a2⟩ W hR hcap
     rw [← HR2] at hc
     obtain ⟨T,hT⟩ : ∃ T,iO R=T:=⟨_,rfl⟩
     unfold bg at hc
     rw [hT] at hc
     have HT:=Lib.hid hT
     clear hT HR1 HR2
     go_wp2_with fail
     refine am (Sw 14 (fun W9=>Below wr.heap.size wr W9) (fun W9=>Below w.heap.size w W9∧iS W9 w.heap.size gr x l (eM x R))) (fun i w1 w2=>i ∉ [14]→Below w1.heap.size w1 w2) (by kernel_rfl) (by kernel_rfl) (by kernel_rfl) (Sw.start (Below.refl _ _).drew) ?_
     simp only [aw,Act.put,List.setIfInBounds_toArray,List.set_cons_zero,List.set_cons_succ,Nat.zero_add,Nat.reduceAdd]
     apply aa
     case h1 =>
      intro vs L9 w9 hG9 hC9 hB K9 hK9
      replace hC9:=sb hC9 hG9
      have q0:w9.cell? ⟨w.heap.size,0,none⟩=some (F x.TA x.t.length x.tc):=(K1.below hC9 K1.lt).cell 0
      have q1:w9.cell? ⟨w.heap.size,1,none⟩=some (F x.OA x.o.length x.oc):=(K1.below hC9 K1.lt).cell 1
      have q2:w9.cell? ⟨w.heap.size,2,none⟩=some (O U x.got):=(K1.below hC9 K1.lt).cell 2
      have q3:w9.cell? ⟨w.heap.size,3,none⟩=some (O U x.sold):=(K1.below hC9 K1.lt).cell 3
      have q4:w9.cell? ⟨w.heap.size,4,none⟩=some (O U x.missed):=(K1.below hC9 K1.lt).cell 4
      have q5:w9.cell? ⟨w.heap.size,5,none⟩=some (uk l.D):=(K1.below hC9 K1.lt).cell 5
      have q6:w9.cell? ⟨w.heap.size,6,none⟩=some (uk l.P):=(K1.below hC9 K1.lt).cell 6
      have q7:w9.cell? ⟨w.heap.size,7,none⟩=some (O U l.n):=(K1.below hC9 K1.lt).cell 7
      simp only [Act.put,sA,s0,s1] at hK9
      go_simp
      exact hK9 _ _ rfl (sy hG9 hC9) bR
     apply aa
     case h1 =>
      intro vs L9 w9 hG9 hC9 hB K9 hK9
      replace hC9:=sb hC9 hG9
      simp only [Act.put,sA,s0,s1] at hK9
      go_simp
      exact hK9 _ _ rfl (sy hG9 hC9) bR
     apply aa
     case h1 =>
      intro vs L9 w9 hG9 hC9 hB K9 hK9
      replace hC9:=sb hC9 hG9
      have d1:=fe hB 1
      simp only [d1] at hK9 ⊢
      simp only [Act.put,sA,s0,s1] at hK9
      go_simp
      exact hK9 _ _ rfl (sy hG9 hC9) bR
     apply aa
     case h1 =>
      intro vs L9 w9 hG9 hC9 hB K9 hK9
      replace hC9:=sb hC9 hG9
      have d2:=fe hB 2
      simp only [d2] at hK9 ⊢
      have q0:w9.cell? ⟨gN,0,none⟩=some (O U a0):=(hC9.cell LN.lt).trans d0n
      simp only [Act.put,sA,s0,s1] at hK9
      go_simp
      exact hK9 _ _ rfl (sy hG9 hC9) bR
     apply aa
     case h1 =>
      intro vs L9 w9 hG9 hC9 hB K9 hK9
      replace hC9:=sb hC9 hG9
      simp only [Act.put,sA,s0,s1] at hK9
      go_simp
      exact hK9 _ _ rfl (sy hG9 hC9) bR
     apply aa
     case h1 =>
      intro vs L9 w9 hG9 hC9 hB K9 hK9
      replace hC9:=sb hC9 hG9
      have d4:=fe hB 4
      simp only [d4] at hK9 ⊢
      simp only [Act.put,sA,s0,s1] at hK9
      go_simp
      exact hK9 _ _ rfl (sy hG9 hC9) bR
     apply aa
     case h1 =>
      intro vs L9 w9 hG9 hC9 hB K9 hK9
      replace hC9:=sb hC9 hG9
      have d5:=fe hB 5
      simp only [d5] at hK9 ⊢
      have q0:w9.cell? ⟨gN,1,none⟩=some (O U a1):=(hC9.cell LN.lt).trans d1n
      simp only [Act.put,sA,s0,s1] at hK9
      go_simp
      exact hK9 _ _ rfl (sy hG9 hC9) bR
     apply aa
     case h1 =>
      intro vs L9 w9 hG9 hC9 hB K9 hK9
      replace hC9:=sb hC9 hG9
      simp only [Act.put,sA,s0,s1] at hK9
      go_simp
      exact hK9 _ _ rfl (sy hG9 hC9) bR
     apply aa
     case h1 =>
      intro vs L9 w9 hG9 hC9 hB K9 hK9
      replace hC9:=sb hC9 hG9
      have d7:=fe hB 7
      simp only [d7] at hK9 ⊢
      simp only [Act.put,sA,s0,s1] at hK9
      go_simp
      exact hK9 _ _ rfl (sy hG9 hC9) bR
     apply aa
     case h1 =>
      intro vs L9 w9 hG9 hC9 hB K9 hK9
      replace hC9:=sb hC9 hG9
      have d8:=fe hB 8
      simp only [d8] at hK9 ⊢
      have q0:w9.cell? ⟨gN,2,none⟩=some (O U a2):=(hC9.cell LN.lt).trans d2n
      simp only [Act.put,sA,s0,s1] at hK9
      go_simp
      exact hK9 _ _ rfl (sy hG9 hC9) bR
     apply aa
     case h1 =>
      intro vs L9 w9 hG9 hC9 hB K9 hK9
      replace hC9:=sb hC9 hG9
      have d3:=fe hB 3
      have d6:=fe hB 6
      have d9:=fe hB 9
      simp only [d3,d6,d9] at hK9 ⊢
      simp only [Act.put,sA,s0,s1] at hK9
      go_simp
      exact hK9 _ _ rfl (sy hG9 hC9) bR
     refine ak [14] (fun v w9=>∃ X:aL,v=.tuple #[aD X l,uk T]∧eK w9 w.heap.size x l (eM x R) (aD X l)) ?_ (fun vs L9 w9 hG9 hC9 hB K9 hK9=>?_) ?_
     next =>
      intro i9 hi9 hb9 ha9 v w1 w2 hv hT9
      have hb:=hT9 (fun hm=>by
       simp only [List.mem_cons,List.not_mem_nil,or_false] at hm hb9
       subst hm
       ·exact hb9 (by simp))
      obtain ⟨X,q1,q2⟩:=hv
      exact ⟨X,q1,q2.below hb⟩
     next =>
      replace hC9:=sb hC9 hG9
      have d0:=fe hB 0
      have d10:=fe hB 10
      simp only [d0,d10] at hK9 ⊢
      simp only [Act.put,sA,s0,s1] at hK9
      go_simp
      refine (hc w9 (hW6.then hC9)).mono ?_
      rintro en w8 ⟨v,rfl,hv,hb8⟩
      obtain ⟨X,rfl⟩:=hv.con
      exact hK9 _ _ _ rfl ⟨X,rfl,hv.lower (Nat.le_trans b6.size hC9.size)⟩ (Sw.stay hG9 (by kernel_rfl) (by decide) (hC9.trans (hb8.mono hC9.size))) (fun _=>hb8)
     refine ak [14] (fun v w9=>∃ X:aL,v=aD X l∧eK w9 w.heap.size x l (eM x R) (aD X l)) ?_ (fun vs L9 w9 hG9 hC9 hB K9 hK9=>?_) ?_
     next =>
      intro i9 hi9 hb9 ha9 v w1 w2 hv hT9
      have hb:=hT9 (fun hm=>by
       simp only [List.mem_cons,List.not_mem_nil,or_false] at hm hb9
       subst hm
       ·exact hb9 (by simp))
      obtain ⟨X,q1,q2⟩:=hv
      exact ⟨X,q1,q2.below hb⟩
     next =>
      replace hC9:=sb hC9 hG9
      simp only [Act.put,sA,s0,s1] at hK9
      obtain ⟨X,e0,hq⟩:=fs hB 11
      simp only [e0] at hK9 ⊢
      go_simp
      exact hK9 _ _ _ rfl ⟨X,rfl,hq⟩ (sy hG9 hC9) bR
     refine aa (uk T) (fun vs L9 w9 hG9 hC9 hB K9 hK9=>?_) ?_
     next =>
      replace hC9:=sb hC9 hG9
      obtain ⟨X,e0,hq⟩:=fs hB 11
      simp only [e0] at hK9 ⊢
      go_simp
      exact hK9 _ _ rfl (sy hG9 hC9) bR
     refine aa (undef) (fun vs L9 w9 hG9 hC9 hB K9 hK9=>?_) ?_
     next =>
      replace hC9:=hC9.here hG9
      obtain ⟨X,e0,hq⟩:=fs hB 12
      simp only [e0] at hK9 ⊢
      have Lr:=K2.below hC9 K2.lt
      obtain ⟨z0,z1,z2,z3,z4,z5,z6,z7⟩:=cells8 Lr
      obtain ⟨f0,f1,f2,f3,f4,f5,f6,f7⟩:=frz8 Lr
      have hN8:=Lib.hid (iS.put (X:=X) Lr hq)
      have hD8:=Lib.hid (dY (g:=gr) (b6.trans (hC9.mono b6.size)) hge (F X.TA X.t.length X.tc) (F X.OA X.o.length X.oc) (O U X.got) (O U X.sold) (O U X.missed) (uk l.D) (uk l.P) (O U l.n))
      clear Lr hq
      go_simp
      exact hK9 _ _ rfl (Sw.turn ⟨hD8.out,hN8.out⟩) (fun hq=>(hq (by decide)).elim)
     apply aa
     case h1 =>
      intro vs L9 w9 hG9 hC9 hB K9 hK9
      replace hC9:=hC9.after hG9 (by kernel_rfl)
      have d13:=fe hB 13
      simp only [d13] at hK9 ⊢
      simp only [Act.put,sA,s0,s1] at hK9
      go_simp
      exact hK9 _ _ rfl (Sw.on hG9 (by kernel_rfl) hC9) bR
     refine ax fun vs L9 w9 hL9 hC9 hB=>?_
     replace hC9:=hC9.done hL9 (by decide)
     have dl:=ag.eq (hB 15 _ rfl rfl (by decide))
     simp only [dl]
     clear hB dl
     obtain ⟨hD,X,hN,hV⟩:=hC9
     obtain ⟨k0,k1,k2,k3,k4,k5,k6,k7⟩:=cells8 hN
     clear hN
     go_wp2
     refine bodyPost_ret (v:=.tuple #[aD X l,uk T]) (by simp [results,Tryz.results47,go_sem, *]) rfl (bg.mk HT.out hV hD)
    have f3:(w0.toList == [109,111,118,101])=false:=bC h3
    have HR2:Hid (R=none):=by rw [Hid,HR1]; unfold cr; rw [if_neg h0,if_neg h1,if_neg h2,if_neg h3]; rfl
    clear h0 h1 h2 h3 HR1
    obtain ⟨c0,c1,c2,c3,c4,c5,c6,c7⟩:=cells8 K1
    obtain ⟨z0,z1,z2,z3,z4,z5,z6,z7⟩:=cells8 K2
    obtain ⟨ff0,ff1,ff2,ff3,ff4,ff5,ff6,ff7⟩:=frz8 K2
    have bz:=Lib.hid (dY (g:=gr) (b6) hge (F x.TA x.t.length x.tc) (F x.OA x.o.length x.oc) (O U x.got) (O U x.sold) (O U x.missed) (uk l.D) (uk l.P) (O U l.n))
    clear K1 K2 b6
    go_wp2_with fail
    refine bodyPost_ret (v:=.tuple #[aD x l,uk ⟨#[63]⟩]) (by simp [results,Tryz.results47,go_sem, *]) rfl (by rw [HR2.out]; exact ⟨_,rfl,.inl ⟨rfl,rfl⟩,bz.out⟩)
   have z0:((m.length:Int) == 0)=false:=beq_false_of_ne (by omega)
   have z1:((m.length:Int) == 1)=false:=beq_false_of_ne (by omega)
   have z2:((m.length:Int) == 2)=false:=beq_false_of_ne (by omega)
   have z3:((m.length:Int) == 3)=false:=beq_false_of_ne (by omega)
   have HR2:Hid (R=none):=by rw [Hid,HE.out]; exact pB (by omega)
   clear HE HW1 HLEN HNS
   obtain ⟨c0,c1,c2,c3,c4,c5,c6,c7⟩:=cells8 K1
   obtain ⟨z0,z1,z2,z3,z4,z5,z6,z7⟩:=cells8 K2
   obtain ⟨ff0,ff1,ff2,ff3,ff4,ff5,ff6,ff7⟩:=frz8 K2
   have bz:=Lib.hid (dY (g:=gr) (b6) hge (F x.TA x.t.length x.tc) (F x.OA x.o.length x.oc) (O U x.got) (O U x.sold) (O U x.missed) (uk l.D) (uk l.P) (O U l.n))
   clear K1 K2 b6
   go_wp2_with fail
   refine bodyPost_ret (v:=.tuple #[aD x l,uk ⟨#[63]⟩]) (by simp [results,Tryz.results47,go_sem, *]) rfl (by rw [HR2.out]; exact ⟨_,rfl,.inl ⟨rfl,rfl⟩,bz.out⟩)
theorem dV {w:World} {B g:Nat} {y:Oc} {TA OA:Option Addr} {tc oc:Nat} {cs:List Value} (u0 u1 u2 u3 u4 u5 u6 u7:Value) (hL:ah w g 42 cs) (h1:w.ownsRow B 104 2 (F TA y.t.length tc) y.t.length (y.t.flatMap ap.enc)) (h2:w.ownsRow B 147 3 (F OA y.o.length oc) y.o.length (y.o.flatMap ae.enc)) :
  ((((((((w.setCell ⟨g,0,none⟩ (u0)).setCell ⟨g,1,none⟩ (u1)).setCell ⟨g,2,none⟩ (u2)).setCell ⟨g,3,none⟩ (u3)).setCell ⟨g,4,none⟩ (u4)).setCell ⟨g,5,none⟩ (u5)).setCell ⟨g,6,none⟩ (u6)).setCell ⟨g,7,none⟩ (u7)).ownsRow B 104 2 (F TA y.t.length tc) y.t.length (y.t.flatMap ap.enc)∧((((((((w.setCell ⟨g,0,none⟩ (u0)).setCell ⟨g,1,none⟩ (u1)).setCell ⟨g,2,none⟩ (u2)).setCell ⟨g,3,none⟩ (u3)).setCell ⟨g,4,none⟩ (u4)).setCell ⟨g,5,none⟩ (u5)).setCell ⟨g,6,none⟩ (u6)).setCell ⟨g,7,none⟩ (u7)).ownsRow B 147 3 (F OA y.o.length oc) y.o.length (y.o.flatMap ae.enc):=by
 have gr:w.grownBy ((((((((w.setCell ⟨g,0,none⟩ (u0)).setCell ⟨g,1,none⟩ (u1)).setCell ⟨g,2,none⟩ (u2)).setCell ⟨g,3,none⟩ (u3)).setCell ⟨g,4,none⟩ (u4)).setCell ⟨g,5,none⟩ (u5)).setCell ⟨g,6,none⟩ (u6)).setCell ⟨g,7,none⟩ (u7)) (some g):=ab (g:=g) (i:=7) (u:=u7) (ab (g:=g) (i:=6) (u:=u6) (ab (g:=g) (i:=5) (u:=u5) (ab (g:=g) (i:=4) (u:=u4) (ab (g:=g) (i:=3) (u:=u3) (ab (g:=g) (i:=2) (u:=u2) (ab (g:=g) (i:=1) (u:=u1) (ab (g:=g) (i:=0) (u:=u0) (World.grownBy.refl w (some g)))))))))
 exact ⟨aj h1 hL fa gr,aj h2 hL fb gr⟩
theorem s7 {x X:aL} (h:X.c=x.c) (line:ByteArray):iq X line=iq x line:=by
 cases x; cases X
 simp only [aL.c,Oc.mk.injEq] at h
 obtain ⟨rfl,rfl,rfl,rfl,rfl⟩:=h
 rfl
theorem good_c {x X:aL} (h:X.c=x.c) (G:bo x):bo X:=by
 have e:X.c.good=x.c.good:=by rw [h]
 have e1:al x=true:=bj.2 G
 have e2:X.c.good=true:=e.trans e1
 exact bj.1 (show al X=true from e2)
theorem sa {x:aL} (h:x.c.good=true) (w0:ByteArray) (ns:List Int):(eM x (br x w0 ns)).good=true:=by
 have key:∀ s:Option dW,(eM x (s.bind (bJ x))).good=true:=fun s=>by
  cases s with
  | none=>exact h
  | some s =>
   show (eM x (bJ x s)).good=true
   unfold bJ
   cases hN:hH x.c s with
   | none=>exact h
   | some z=>exact (fw hN).1
 unfold br
 split
 ·rw [kx]; exact h
 ·rw [kx]; exact h
 ·exact key _
 ·exact key _
 ·exact h
theorem li {x:aL} (h:x.c.good=true) (line:ByteArray):(eM x (iq x line)).good=true:=by
 unfold iq
 cases dj ((aH 32 (bl line)).drop 1) with
 | none=>exact h
 | some ns=>exact sa h _ _
theorem tV {x X:aL} (h:X.c=x.c) (R:Option (Oc × ByteArray)):eM X R=eM x R:=by cases R <;> simp [eM,h]
def bP (w:World) (x:aL) (l:Lg) (line:ByteArray) (e:Ending) (w' : World):Prop :=
 ∃ v,e=.returned (.tuple #[v,uk (gD x l line)])∧lf w' w.heap.size (eJ x l line) (fS x l line) v∧Below w.heap.size w w'
theorem bP.mk {w w' : World} {x:aL} {l l' : Lg} {line T:ByteArray} {y:Oc} {v:Value} (hT:gD x l line=T) (hO:eJ x l line=y) (hL:fS x l line=l') (h1:lf w' w.heap.size y l' v) (h2:Below w.heap.size w w'):bP w x l line (.returned (.tuple #[v,uk T])) w':=by
 subst hT; subst hO; subst hL; exact ⟨v,rfl,h1,h2⟩
set_option maxRecDepth 100000 in
set_option maxHeartbeats 8000000 in
theorem sc (x:aL) (l:Lg) (line:ByteArray) (w:World) (h:aM w w.heap.size x) (tl:x.t.length≤1048576) (ol:x.o.length≤1048576) (hs:l.D.size+l.P.size≤2000000) (hsl:line.size≤1048576) (hok:dK x l=false) :
  Calls Tryz.prog 14 #[aD x l,uk line] w (bP w x l line):=by
 have L1:=(ah.new w 42 #[F x.TA x.t.length x.tc,F x.OA x.o.length x.oc,O U x.got,O U x.sold,O U x.missed,uk l.D,uk l.P,O U l.n]).alloc (.cells #[F none 0 0,F none 0 0,O U 0,O U 0,O U 0,uk ⟨#[]⟩,uk ⟨#[]⟩,O U 0] 42)
 have L2:=ah.new1 w (.cells #[F x.TA x.t.length x.tc,F x.OA x.o.length x.oc,O U x.got,O U x.sold,O U x.missed,uk l.D,uk l.P,O U l.n] 42) 42 #[F none 0 0,F none 0 0,O U 0,O U 0,O U 0,uk ⟨#[]⟩,uk ⟨#[]⟩,O U 0]
 have b1:=(Below.refl w.heap.size w).alloc (Nat.le_refl _) (.cells #[F x.TA x.t.length x.tc,F x.OA x.o.length x.oc,O U x.got,O U x.sold,O U x.missed,uk l.D,uk l.P,O U l.n] 42)
 have b2:=b1.alloc b1.size (.cells #[F none 0 0,F none 0 0,O U 0,O U 0,O U 0,uk ⟨#[]⟩,uk ⟨#[]⟩,O U 0] 42)
 have hW:=h.up b2 (Nat.le_refl _)
 have hge:w.heap.size≤w.heap.size+1:=by omega
 clear b1 h
 go_enter Tryz.func14,Tryz.ntmps14
 go_wp2_with fail
 generalize ((w.alloc (.cells #[F x.TA x.t.length x.tc,F x.OA x.o.length x.oc,O U x.got,O U x.sold,O U x.missed,uk l.D,uk l.P,O U l.n] 42)).alloc (.cells #[F none 0 0,F none 0 0,O U 0,O U 0,O U 0,uk ⟨#[]⟩,uk ⟨#[]⟩,O U 0] 42))=W at L1 L2 b2 hW ⊢
 refine (gE x l W hW tl ol).mono ?_
 rintro e W1 ⟨v,rfl,⟨TA,tc,OA,oc,rfl,hT0,hO0⟩,hb⟩
 go_upto_region 2 with fail
 have hal:=(Below.refl W1.heap.size W1).alloc (Nat.le_refl _) (.cells #[F TA x.c.t.length tc,F OA x.c.o.length oc,O U x.c.got,O U x.c.sold,O U x.c.missed,uk l.D,uk l.P,O U l.n] 42)
 have hb2:=aq hb hal
 have J1:=L1.below hb2 L1.lt
 have J2:=L2.below hb2 L2.lt
 have J6:=ah.new W1 42 #[F TA x.c.t.length tc,F OA x.c.o.length oc,O U x.c.got,O U x.c.sold,O U x.c.missed,uk l.D,uk l.P,O U l.n]
 have b4:=aq b2 hb2
 have hT1:=af (ac hT0 hal) b2.size
 have hO1:=af (ac hO0 hal) b2.size
 have hW2:=hW.then hb2
 have hg26:w.heap.size+1 < W1.heap.size:=Nat.lt_of_lt_of_le L2.lt hb.size
 clear hal hb2 hb hT0 hO0 L1 L2 b2 hW
 generalize W1.alloc (.cells #[F TA x.c.t.length tc,F OA x.c.o.length oc,O U x.c.got,O U x.c.sold,O U x.c.missed,uk l.D,uk l.P,O U l.n] 42)=W2 at J1 J2 J6 b4 hT1 hO1 hW2 ⊢
 generalize W1.heap.size=g6 at J6 hg26 ⊢
 have hg6:w.heap.size≤g6:=by omega
 obtain ⟨c0,c1,c2,c3,c4,c5,c6,c7⟩:=cells8 J1
 go_wp2_with fail
 refine (eY x l W2 hW2 hs).mono ?_
 rintro e W3 ⟨rfl,hb3⟩
 have K1:=J1.below hb3 J1.lt
 have K2:=J2.below hb3 J2.lt
 have K6:=J6.below hb3 J6.lt
 have b5:=b4.trans (hb3.mono b4.size)
 have hT3:=ac hT1 hb3
 have hO3:=ac hO1 hb3
 have hW3:=hW2.then hb3
 clear hb3 J1 J2 J6 b4 hT1 hO1 hW2 c0 c1 c2 c3 c4 c5 c6 c7
 rw [hok]
 obtain ⟨p0,p1,p2,p3,p4,p5,p6,p7⟩:=cells8 K6
 obtain ⟨z0,z1,z2,z3,z4,z5,z6,z7⟩:=cells8 K2
 obtain ⟨f0,f1,f2,f3,f4,f5,f6,f7⟩:=frz8 K2
 obtain ⟨hT4,hO4⟩:=dV (F TA x.c.t.length tc) (F OA x.c.o.length oc) (O U x.c.got) (O U x.c.sold) (O U x.c.missed) (uk l.D) (uk l.P) (O U l.n) K2 hT3 hO3
 have bz:=Lib.hid (dY (g:=w.heap.size+1) (b5) hge (F TA x.c.t.length tc) (F OA x.c.o.length oc) (O U x.c.got) (O U x.c.sold) (O U x.c.missed) (uk l.D) (uk l.P) (O U l.n))
 have HT4:=Lib.hid hT4
 have HO4:=Lib.hid hO4
 clear K1 K2 K6 b5 hT3 hO3 hW3 hT4 hO4
 go_wp2_with fail
 refine bodyPost_ret (v:=.tuple #[.agg #[F TA x.c.t.length tc,F OA x.c.o.length oc,O U x.c.got,O U x.c.sold,O U x.c.missed,uk l.D,uk l.P,O U l.n],uk ⟨#[110,111]⟩]) (by simp [results,Tryz.results14,go_sem, *]) rfl (bP.mk (by unfold gD; rw [if_neg (by rw [hok]; exact Bool.false_ne_true)]) (by unfold eJ; rw [if_neg (by rw [hok]; exact Bool.false_ne_true)]) (by unfold fS; rw [if_neg (by rw [hok]; exact Bool.false_ne_true)]) ⟨TA,tc,OA,oc,rfl,HT4.out,HO4.out⟩ bz.out)
set_option maxRecDepth 100000 in
set_option maxHeartbeats 8000000 in
theorem qB (x:aL) (l:Lg) (line:ByteArray) (w:World) (h:aM w w.heap.size x) (tl:x.t.length≤1048576) (ol:x.o.length≤1048576) (hs:l.D.size+l.P.size≤2000000) (hsl:line.size≤1048576) (hok:dK x l=true) (hrk:fu.ok ⟨line,⟨#[]⟩⟩=false) :
  Calls Tryz.prog 14 #[aD x l,uk line] w (bP w x l line):=by
 have L1:=(ah.new w 42 #[F x.TA x.t.length x.tc,F x.OA x.o.length x.oc,O U x.got,O U x.sold,O U x.missed,uk l.D,uk l.P,O U l.n]).alloc (.cells #[F none 0 0,F none 0 0,O U 0,O U 0,O U 0,uk ⟨#[]⟩,uk ⟨#[]⟩,O U 0] 42)
 have L2:=ah.new1 w (.cells #[F x.TA x.t.length x.tc,F x.OA x.o.length x.oc,O U x.got,O U x.sold,O U x.missed,uk l.D,uk l.P,O U l.n] 42) 42 #[F none 0 0,F none 0 0,O U 0,O U 0,O U 0,uk ⟨#[]⟩,uk ⟨#[]⟩,O U 0]
 have b1:=(Below.refl w.heap.size w).alloc (Nat.le_refl _) (.cells #[F x.TA x.t.length x.tc,F x.OA x.o.length x.oc,O U x.got,O U x.sold,O U x.missed,uk l.D,uk l.P,O U l.n] 42)
 have b2:=b1.alloc b1.size (.cells #[F none 0 0,F none 0 0,O U 0,O U 0,O U 0,uk ⟨#[]⟩,uk ⟨#[]⟩,O U 0] 42)
 have hW:=h.up b2 (Nat.le_refl _)
 have hge:w.heap.size≤w.heap.size+1:=by omega
 clear b1 h
 go_enter Tryz.func14,Tryz.ntmps14
 go_wp2_with fail
 generalize ((w.alloc (.cells #[F x.TA x.t.length x.tc,F x.OA x.o.length x.oc,O U x.got,O U x.sold,O U x.missed,uk l.D,uk l.P,O U l.n] 42)).alloc (.cells #[F none 0 0,F none 0 0,O U 0,O U 0,O U 0,uk ⟨#[]⟩,uk ⟨#[]⟩,O U 0] 42))=W at L1 L2 b2 hW ⊢
 refine (gE x l W hW tl ol).mono ?_
 rintro e W1 ⟨v,rfl,⟨TA,tc,OA,oc,rfl,hT0,hO0⟩,hb⟩
 go_upto_region 2 with fail
 have hal:=(Below.refl W1.heap.size W1).alloc (Nat.le_refl _) (.cells #[F TA x.c.t.length tc,F OA x.c.o.length oc,O U x.c.got,O U x.c.sold,O U x.c.missed,uk l.D,uk l.P,O U l.n] 42)
 have hb2:=aq hb hal
 have J1:=L1.below hb2 L1.lt
 have J2:=L2.below hb2 L2.lt
 have J6:=ah.new W1 42 #[F TA x.c.t.length tc,F OA x.c.o.length oc,O U x.c.got,O U x.c.sold,O U x.c.missed,uk l.D,uk l.P,O U l.n]
 have b4:=aq b2 hb2
 have hT1:=af (ac hT0 hal) b2.size
 have hO1:=af (ac hO0 hal) b2.size
 have hW2:=hW.then hb2
 have hg26:w.heap.size+1 < W1.heap.size:=Nat.lt_of_lt_of_le L2.lt hb.size
 clear hal hb2 hb hT0 hO0 L1 L2 b2 hW
 generalize W1.alloc (.cells #[F TA x.c.t.length tc,F OA x.c.o.length oc,O U x.c.got,O U x.c.sold,O U x.c.missed,uk l.D,uk l.P,O U l.n] 42)=W2 at J1 J2 J6 b4 hT1 hO1 hW2 ⊢
 generalize W1.heap.size=g6 at J6 hg26 ⊢
 have hg6:w.heap.size≤g6:=by omega
 obtain ⟨c0,c1,c2,c3,c4,c5,c6,c7⟩:=cells8 J1
 go_wp2_with fail
 refine (eY x l W2 hW2 hs).mono ?_
 rintro e W3 ⟨rfl,hb3⟩
 have K1:=J1.below hb3 J1.lt
 have K2:=J2.below hb3 J2.lt
 have K6:=J6.below hb3 J6.lt
 have b5:=b4.trans (hb3.mono b4.size)
 have hT3:=ac hT1 hb3
 have hO3:=ac hO1 hb3
 have hW3:=hW2.then hb3
 clear hb3 J1 J2 J6 b4 hT1 hO1 hW2 c0 c1 c2 c3 c4 c5 c6 c7
 rw [hok]
 go_wp2_with fail
 refine (fO ⟨line,⟨#[]⟩⟩ W3 (Nat.le_trans hsl (by decide)) (show (0:Nat)≤1000000000 by omega)).mono ?_
 rintro e W4 ⟨rfl,hb4⟩
 have N1:=K1.below hb4 K1.lt
 have N2:=K2.below hb4 K2.lt
 have N6:=K6.below hb4 K6.lt
 have b6:=b5.trans (hb4.mono b5.size)
 have hT5:=ac hT3 hb4
 have hO5:=ac hO3 hb4
 have hW4:=hW3.then hb4
 clear hb4 K1 K2 K6 b5 hT3 hO3 hW3
 rw [hrk]
 obtain ⟨p0,p1,p2,p3,p4,p5,p6,p7⟩:=cells8 N6
 obtain ⟨z0,z1,z2,z3,z4,z5,z6,z7⟩:=cells8 N2
 obtain ⟨f0,f1,f2,f3,f4,f5,f6,f7⟩:=frz8 N2
 obtain ⟨hT4,hO4⟩:=dV (F TA x.c.t.length tc) (F OA x.c.o.length oc) (O U x.c.got) (O U x.c.sold) (O U x.c.missed) (uk l.D) (uk l.P) (O U l.n) N2 hT5 hO5
 have bz:=Lib.hid (dY (g:=w.heap.size+1) (b6) hge (F TA x.c.t.length tc) (F OA x.c.o.length oc) (O U x.c.got) (O U x.c.sold) (O U x.c.missed) (uk l.D) (uk l.P) (O U l.n))
 have HT4:=Lib.hid hT4
 have HO4:=Lib.hid hO4
 clear N1 N2 N6 b6 hT5 hO5 hW4 hT4 hO4
 go_wp2_with fail
 refine bodyPost_ret (v:=.tuple #[.agg #[F TA x.c.t.length tc,F OA x.c.o.length oc,O U x.c.got,O U x.c.sold,O U x.c.missed,uk l.D,uk l.P,O U l.n],uk ⟨#[98,97,100]⟩]) (by simp [results,Tryz.results14,go_sem, *]) rfl (bP.mk (by unfold gD; rw [if_pos hok,if_neg (by rw [hrk]; exact Bool.false_ne_true)]) (by unfold eJ; rw [if_pos hok,if_neg (by rw [hrk]; exact Bool.false_ne_true)]) (by unfold fS; rw [if_pos hok,if_neg (by rw [hrk]; exact Bool.false_ne_true)]) ⟨TA,tc,OA,oc,rfl,HT4.out,HO4.out⟩ bz.out)
set_option maxRecDepth 100000 in
set_option maxHeartbeats 8000000 in
theorem pD (x:aL) (l:Lg) (line:ByteArray) (w:World) (h:aM w w.heap.size x) (tl:x.t.length≤1048576) (ol:x.o.length≤1048576) (hs:l.D.size+l.P.size≤2000000) (hsl:line.size≤1048576) (hok:dK x l=true) (hrk:fu.ok ⟨line,⟨#[]⟩⟩=true) (hn:l.n=60) :
  Calls Tryz.prog 14 #[aD x l,uk line] w (bP w x l line):=by
 have hne:(l.n == 60)=true:=by rw [hn]; rfl
 have HN:=Lib.hid hn
 clear hn
 have L1:=(ah.new w 42 #[F x.TA x.t.length x.tc,F x.OA x.o.length x.oc,O U x.got,O U x.sold,O U x.missed,uk l.D,uk l.P,O U l.n]).alloc (.cells #[F none 0 0,F none 0 0,O U 0,O U 0,O U 0,uk ⟨#[]⟩,uk ⟨#[]⟩,O U 0] 42)
 have L2:=ah.new1 w (.cells #[F x.TA x.t.length x.tc,F x.OA x.o.length x.oc,O U x.got,O U x.sold,O U x.missed,uk l.D,uk l.P,O U l.n] 42) 42 #[F none 0 0,F none 0 0,O U 0,O U 0,O U 0,uk ⟨#[]⟩,uk ⟨#[]⟩,O U 0]
 have b1:=(Below.refl w.heap.size w).alloc (Nat.le_refl _) (.cells #[F x.TA x.t.length x.tc,F x.OA x.o.length x.oc,O U x.got,O U x.sold,O U x.missed,uk l.D,uk l.P,O U l.n] 42)
 have b2:=b1.alloc b1.size (.cells #[F none 0 0,F none 0 0,O U 0,O U 0,O U 0,uk ⟨#[]⟩,uk ⟨#[]⟩,O U 0] 42)
 have hW:=h.up b2 (Nat.le_refl _)
 have hge:w.heap.size≤w.heap.size+1:=by omega
 clear b1 h
 go_enter Tryz.func14,Tryz.ntmps14
 go_wp2_with fail
 generalize ((w.alloc (.cells #[F x.TA x.t.length x.tc,F x.OA x.o.length x.oc,O U x.got,O U x.sold,O U x.missed,uk l.D,uk l.P,O U l.n] 42)).alloc (.cells #[F none 0 0,F none 0 0,O U 0,O U 0,O U 0,uk ⟨#[]⟩,uk ⟨#[]⟩,O U 0] 42))=W at L1 L2 b2 hW ⊢
 refine (gE x l W hW tl ol).mono ?_
 rintro e W1 ⟨v,rfl,⟨TA,tc,OA,oc,rfl,hT0,hO0⟩,hb⟩
 go_upto_region 2 with fail
 have hal:=(Below.refl W1.heap.size W1).alloc (Nat.le_refl _) (.cells #[F TA x.c.t.length tc,F OA x.c.o.length oc,O U x.c.got,O U x.c.sold,O U x.c.missed,uk l.D,uk l.P,O U l.n] 42)
 have hb2:=aq hb hal
 have J1:=L1.below hb2 L1.lt
 have J2:=L2.below hb2 L2.lt
 have J6:=ah.new W1 42 #[F TA x.c.t.length tc,F OA x.c.o.length oc,O U x.c.got,O U x.c.sold,O U x.c.missed,uk l.D,uk l.P,O U l.n]
 have b4:=aq b2 hb2
 have hT1:=af (ac hT0 hal) b2.size
 have hO1:=af (ac hO0 hal) b2.size
 have hW2:=hW.then hb2
 have hg26:w.heap.size+1 < W1.heap.size:=Nat.lt_of_lt_of_le L2.lt hb.size
 clear hal hb2 hb hT0 hO0 L1 L2 b2 hW
 generalize W1.alloc (.cells #[F TA x.c.t.length tc,F OA x.c.o.length oc,O U x.c.got,O U x.c.sold,O U x.c.missed,uk l.D,uk l.P,O U l.n] 42)=W2 at J1 J2 J6 b4 hT1 hO1 hW2 ⊢
 generalize W1.heap.size=g6 at J6 hg26 ⊢
 have hg6:w.heap.size≤g6:=by omega
 obtain ⟨c0,c1,c2,c3,c4,c5,c6,c7⟩:=cells8 J1
 go_wp2_with fail
 refine (eY x l W2 hW2 hs).mono ?_
 rintro e W3 ⟨rfl,hb3⟩
 have K1:=J1.below hb3 J1.lt
 have K2:=J2.below hb3 J2.lt
 have K6:=J6.below hb3 J6.lt
 have b5:=b4.trans (hb3.mono b4.size)
 have hT3:=ac hT1 hb3
 have hO3:=ac hO1 hb3
 have hW3:=hW2.then hb3
 clear hb3 J1 J2 J6 b4 hT1 hO1 hW2 c0 c1 c2 c3 c4 c5 c6 c7
 rw [hok]
 go_wp2_with fail
 refine (fO ⟨line,⟨#[]⟩⟩ W3 (Nat.le_trans hsl (by decide)) (show (0:Nat)≤1000000000 by omega)).mono ?_
 rintro e W4 ⟨rfl,hb4⟩
 have N1:=K1.below hb4 K1.lt
 have N2:=K2.below hb4 K2.lt
 have N6:=K6.below hb4 K6.lt
 have b6:=b5.trans (hb4.mono b5.size)
 have hT5:=ac hT3 hb4
 have hO5:=ac hO3 hb4
 have hW4:=hW3.then hb4
 clear hb4 K1 K2 K6 b5 hT3 hO3 hW3
 rw [hrk]
 obtain ⟨c0,c1,c2,c3,c4,c5,c6,c7⟩:=cells8 N1
 obtain ⟨p0,p1,p2,p3,p4,p5,p6,p7⟩:=cells8 N6
 obtain ⟨z0,z1,z2,z3,z4,z5,z6,z7⟩:=cells8 N2
 obtain ⟨f0,f1,f2,f3,f4,f5,f6,f7⟩:=frz8 N2
 obtain ⟨hT4,hO4⟩:=dV (F TA x.c.t.length tc) (F OA x.c.o.length oc) (O U x.c.got) (O U x.c.sold) (O U x.c.missed) (uk l.D) (uk l.P) (O U l.n) N2 hT5 hO5
 have bz:=Lib.hid (dY (g:=w.heap.size+1) (b6) hge (F TA x.c.t.length tc) (F OA x.c.o.length oc) (O U x.c.got) (O U x.c.sold) (O U x.c.missed) (uk l.D) (uk l.P) (O U l.n))
 have HT4:=Lib.hid hT4
 have HO4:=Lib.hid hO4
 clear N1 N2 N6 b6 hT5 hO5 hW4 hT4 hO4
 go_wp2_with fail
 refine bodyPost_ret (v:=.tuple #[.agg #[F TA x.c.t.length tc,F OA x.c.o.length oc,O U x.c.got,O U x.c.sold,O U x.c.missed,uk l.D,uk l.P,O U l.n],uk ⟨#[102,117,108,108]⟩]) (by simp [results,Tryz.results14,go_sem, *]) rfl (bP.mk (by unfold gD; rw [if_pos hok,if_pos hrk,if_pos HN.out]) (by unfold eJ; rw [if_pos hok,if_pos hrk,if_pos HN.out]) (by unfold fS; rw [if_pos hok,if_pos hrk,if_pos HN.out]) ⟨TA,tc,OA,oc,rfl,HT4.out,HO4.out⟩ bz.out)
set_option maxRecDepth 100000 in
set_option maxHeartbeats 8000000 in
theorem qC (x:aL) (l:Lg) (line:ByteArray) (w:World) (h:aM w w.heap.size x) (tl:x.t.length≤1048576) (ol:x.o.length≤1048576) (hs:l.D.size+l.P.size≤2000000) (hsl:line.size≤1048576) (hok:dK x l=true) (hrk:fu.ok ⟨line,⟨#[]⟩⟩=true) (hn : ¬ l.n=60) :
  Calls Tryz.prog 14 #[aD x l,uk line] w (bP w x l line):=by
 have hne:(l.n == 60)=false:=beq_false_of_ne hn
 have G:=jP hok
 have hl160:line.size≤1000:=by
  have h1:=(dt.1 hrk).2.1
  have h2:line.size≤160:=h1
  omega
 have HET:gD x l line=le x line:=by unfold gD; rw [if_pos hok,if_pos hrk,if_neg hn]
 have HEO:eJ x l line=pw x line:=by unfold eJ; rw [if_pos hok,if_pos hrk,if_neg hn]
 have HEL:fS x l line=fR l ⟨line,le x line⟩:=by unfold fS; rw [if_pos hok,if_pos hrk,if_neg hn]
 obtain ⟨R,hR⟩ : ∃ R,iq x line=R:=⟨_,rfl⟩
 have HRT:le x line=if 200 < (iO R).size then ⟨#[108,111,110,103]⟩ else iO R:=by
  unfold le; rw [hR]; cases R with
  | none=>exact (if_neg (by decide)).symm
  | some r=>rfl
 have HRO:pw x line=eM x R:=by unfold pw; rw [hR]; cases R <;> rfl
 obtain ⟨rep,hrep⟩ : ∃ rep,le x line=rep:=⟨_,rfl⟩
 have hrs:rep.size≤200:=by
  rw [← hrep,HRT]; split
  ·show (4:Nat)≤200; omega
  ·omega
 obtain ⟨l2,hl2⟩ : ∃ l2,fR l ⟨line,rep⟩=l2:=⟨_,rfl⟩
 have cA:=fun W=>mJ l ⟨line,rep⟩ W hs (Nat.le_trans hl160 (by decide)) (Nat.le_trans hrs (by decide))
 rw [hrep] at HET HEL HRT
 rw [hl2] at cA HEL
 have ET:=Lib.hid HET
 have EO:=Lib.hid (HEO.trans HRO)
 have EL:=Lib.hid HEL
 have HC:=Lib.hid hR
 clear hn HET HEO HEL HRO hrep hl2 hR
 have L1:=(ah.new w 42 #[F x.TA x.t.length x.tc,F x.OA x.o.length x.oc,O U x.got,O U x.sold,O U x.missed,uk l.D,uk l.P,O U l.n]).alloc (.cells #[F none 0 0,F none 0 0,O U 0,O U 0,O U 0,uk ⟨#[]⟩,uk ⟨#[]⟩,O U 0] 42)
 have L2:=ah.new1 w (.cells #[F x.TA x.t.length x.tc,F x.OA x.o.length x.oc,O U x.got,O U x.sold,O U x.missed,uk l.D,uk l.P,O U l.n] 42) 42 #[F none 0 0,F none 0 0,O U 0,O U 0,O U 0,uk ⟨#[]⟩,uk ⟨#[]⟩,O U 0]
 have b1:=(Below.refl w.heap.size w).alloc (Nat.le_refl _) (.cells #[F x.TA x.t.length x.tc,F x.OA x.o.length x.oc,O U x.got,O U x.sold,O U x.missed,uk l.D,uk l.P,O U l.n] 42)
 have b2:=b1.alloc b1.size (.cells #[F none 0 0,F none 0 0,O U 0,O U 0,O U 0,uk ⟨#[]⟩,uk ⟨#[]⟩,O U 0] 42)
 have hW:=h.up b2 (Nat.le_refl _)
 have hge:w.heap.size≤w.heap.size+1:=by omega
 clear b1 h
 go_enter Tryz.func14,Tryz.ntmps14
 go_wp2_with fail
 generalize ((w.alloc (.cells #[F x.TA x.t.length x.tc,F x.OA x.o.length x.oc,O U x.got,O U x.sold,O U x.missed,uk l.D,uk l.P,O U l.n] 42)).alloc (.cells #[F none 0 0,F none 0 0,O U 0,O U 0,O U 0,uk ⟨#[]⟩,uk ⟨#[]⟩,O U 0] 42))=W at L1 L2 b2 hW ⊢
 refine (gE x l W hW tl ol).mono ?_
 rintro e W1 ⟨v,rfl,⟨TA,tc,OA,oc,rfl,hT0,hO0⟩,hb⟩
 go_upto_region 2 with fail
 have hal:=(Below.refl W1.heap.size W1).alloc (Nat.le_refl _) (.cells #[F TA x.c.t.length tc,F OA x.c.o.length oc,O U x.c.got,O U x.c.sold,O U x.c.missed,uk l.D,uk l.P,O U l.n] 42)
 have hb2:=aq hb hal
 have J1:=L1.below hb2 L1.lt
 have J2:=L2.below hb2 L2.lt
 have J6:=ah.new W1 42 #[F TA x.c.t.length tc,F OA x.c.o.length oc,O U x.c.got,O U x.c.sold,O U x.c.missed,uk l.D,uk l.P,O U l.n]
 have b4:=aq b2 hb2
 have hT1:=af (ac hT0 hal) b2.size
 have hO1:=af (ac hO0 hal) b2.size
 have hW2:=hW.then hb2
 have hg26:w.heap.size+1 < W1.heap.size:=Nat.lt_of_lt_of_le L2.lt hb.size
 clear hal hb2 hb hT0 hO0 L1 L2 b2 hW
 generalize W1.alloc (.cells #[F TA x.c.t.length tc,F OA x.c.o.length oc,O U x.c.got,O U x.c.sold,O U x.c.missed,uk l.D,uk l.P,O U l.n] 42)=W2 at J1 J2 J6 b4 hT1 hO1 hW2 ⊢
 generalize W1.heap.size=g6 at J6 hg26 ⊢
 have hg6:w.heap.size≤g6:=by omega
 obtain ⟨c0,c1,c2,c3,c4,c5,c6,c7⟩:=cells8 J1
 go_wp2_with fail
 refine (eY x l W2 hW2 hs).mono ?_
 rintro e W3 ⟨rfl,hb3⟩
 have K1:=J1.below hb3 J1.lt
 have K2:=J2.below hb3 J2.lt
 have K6:=J6.below hb3 J6.lt
 have b5:=b4.trans (hb3.mono b4.size)
 have hT3:=ac hT1 hb3
 have hO3:=ac hO1 hb3
 have hW3:=hW2.then hb3
 clear hb3 J1 J2 J6 b4 hT1 hO1 hW2 c0 c1 c2 c3 c4 c5 c6 c7
 rw [hok]
 go_wp2_with fail
 refine (fO ⟨line,⟨#[]⟩⟩ W3 (Nat.le_trans hsl (by decide)) (show (0:Nat)≤1000000000 by omega)).mono ?_
 rintro e W4 ⟨rfl,hb4⟩
 have N1:=K1.below hb4 K1.lt
 have N2:=K2.below hb4 K2.lt
 have N6:=K6.below hb4 K6.lt
 have b6:=b5.trans (hb4.mono b5.size)
 have hT5:=ac hT3 hb4
 have hO5:=ac hO3 hb4
 have hW4:=hW3.then hb4
 clear hb4 K1 K2 K6 b5 hT3 hO3 hW3
 rw [hrk]
 obtain ⟨c0,c1,c2,c3,c4,c5,c6,c7⟩:=cells8 N1
 have hXc:(x.c.at TA tc OA oc).c=x.c:=rfl
 have hRX:aM W4 W4.heap.size (x.c.at TA tc OA oc):=⟨aA hT5,aA hO5⟩
 have hcapX:(x.c.at TA tc OA oc).t.length≤(x.c.at TA tc OA oc).tc:=jb hT5
 have hrun:=qA (x.c.at TA tc OA oc) l line W4 hRX hcapX (good_c hXc G) hl160
 rw [s7 hXc,HC.out] at hrun
 obtain ⟨p0,p1,p2,p3,p4,p5,p6,p7⟩:=cells8 N6
 go_wp2_with fail
 refine hrun.mono ?_
 rintro e W5 ⟨v,rfl,hv,hb5⟩
 obtain ⟨X,rfl,hXy,hR5⟩:=hv.as (hRX.then hb5)
 have hal:=(Below.refl W5.heap.size W5).alloc (Nat.le_refl _) (.cells #[F X.TA X.t.length X.tc,F X.OA X.o.length X.oc,O U X.got,O U X.sold,O U X.missed,uk l.D,uk l.P,O U l.n] 42)
 have hb6:=aq hb5 hal
 have J1:=N1.below hb6 N1.lt
 have J2:=N2.below hb6 N2.lt
 have J6:=N6.below hb6 N6.lt
 have J7:=ah.new W5 42 #[F X.TA X.t.length X.tc,F X.OA X.o.length X.oc,O U X.got,O U X.sold,O U X.missed,uk l.D,uk l.P,O U l.n]
 have b7:=b6.trans (hb6.mono b6.size)
 have hR6:=hR5.then hal
 have hg67:g6 < W5.heap.size:=Nat.lt_of_lt_of_le N6.lt hb5.size
 clear p0 p1 p2 p3 p4 p5 p6 p7 c0 c1 c2 c3 c4 c5 c6 c7
 go_upto_region 9 with fail
 clear hal hb6 hb5 hv hR5 N1 N2 N6 b6 hT5 hO5 hRX hrun hcapX hW4
 generalize W5.alloc (.cells #[F X.TA X.t.length X.tc,F X.OA X.o.length X.oc,O U X.got,O U X.sold,O U X.missed,uk l.D,uk l.P,O U l.n] 42)=W6 at J1 J2 J6 J7 b7 hR6 ⊢
 generalize W5.heap.size=g7 at J7 hg67 ⊢
 rw [tV hXc] at hXy
 have hyg:(eM x R).good=true:=by rw [← HC.out]; exact li (by have e1:al x=true:=bj.2 G; exact e1) line
 have hlen:=jn hyg
 rw [← hXy] at hlen
 have hown:=gE X l W6 hR6 (by have:=hlen.1; show X.c.t.length≤_; omega) (by have:=hlen.2; show X.c.o.length≤_; omega)
 rw [hXy] at hown
 have HXY:=Lib.hid hXy
 clear hlen hXy hXc
 obtain ⟨y,hy⟩ : ∃ y,eM x R=y:=⟨_,rfl⟩
 rw [hy] at hown EO
 clear hy hyg HXY
 obtain ⟨c0,c1,c2,c3,c4,c5,c6,c7⟩:=cells8 J7
 go_wp2_with fail
 refine hown.mono ?_
 rintro e W7 ⟨v,rfl,⟨TB,tb,OB,ob,rfl,hT7,hO7⟩,hb7⟩
 have K1:=J1.below hb7 J1.lt
 have K2:=J2.below hb7 J2.lt
 have K6:=J6.below hb7 J6.lt
 have b8:=b7.trans (hb7.mono b7.size)
 have hT8:=af hT7 b7.size
 have hO8:=af hO7 b7.size
 obtain ⟨hT9,hO9⟩:=dV (F TB y.t.length tb) (F OB y.o.length ob) (O U y.got) (O U y.sold) (O U y.missed) (uk l.D) (uk l.P) (O U l.n) K6 hT8 hO8
 have M1:ah ((((((((W7.setCell ⟨g6,0,none⟩ (F TB y.t.length tb)).setCell ⟨g6,1,none⟩ (F OB y.o.length ob)).setCell ⟨g6,2,none⟩ (O U y.got)).setCell ⟨g6,3,none⟩ (O U y.sold)).setCell ⟨g6,4,none⟩ (O U y.missed)).setCell ⟨g6,5,none⟩ (uk l.D)).setCell ⟨g6,6,none⟩ (uk l.P)).setCell ⟨g6,7,none⟩ (O U l.n)) w.heap.size 42 [F x.TA x.t.length x.tc,F x.OA x.o.length x.oc,O U x.got,O U x.sold,O U x.missed,uk l.D,uk l.P,O U l.n]:=((((((((K1).other (p:=⟨g6,0,none⟩) (by simp only; omega) (F TB y.t.length tb)).other (p:=⟨g6,1,none⟩) (by simp only; omega) (F OB y.o.length ob)).other (p:=⟨g6,2,none⟩) (by simp only; omega) (O U y.got)).other (p:=⟨g6,3,none⟩) (by simp only; omega) (O U y.sold)).other (p:=⟨g6,4,none⟩) (by simp only; omega) (O U y.missed)).other (p:=⟨g6,5,none⟩) (by simp only; omega) (uk l.D)).other (p:=⟨g6,6,none⟩) (by simp only; omega) (uk l.P)).other (p:=⟨g6,7,none⟩) (by simp only; omega) (O U l.n)
 have M2:ah ((((((((W7.setCell ⟨g6,0,none⟩ (F TB y.t.length tb)).setCell ⟨g6,1,none⟩ (F OB y.o.length ob)).setCell ⟨g6,2,none⟩ (O U y.got)).setCell ⟨g6,3,none⟩ (O U y.sold)).setCell ⟨g6,4,none⟩ (O U y.missed)).setCell ⟨g6,5,none⟩ (uk l.D)).setCell ⟨g6,6,none⟩ (uk l.P)).setCell ⟨g6,7,none⟩ (O U l.n)) (w.heap.size+1) 42 [F none 0 0,F none 0 0,O U 0,O U 0,O U 0,uk ⟨#[]⟩,uk ⟨#[]⟩,O U 0]:=((((((((K2).other (p:=⟨g6,0,none⟩) (by simp only; omega) (F TB y.t.length tb)).other (p:=⟨g6,1,none⟩) (by simp only; omega) (F OB y.o.length ob)).other (p:=⟨g6,2,none⟩) (by simp only; omega) (O U y.got)).other (p:=⟨g6,3,none⟩) (by simp only; omega) (O U y.sold)).other (p:=⟨g6,4,none⟩) (by simp only; omega) (O U y.missed)).other (p:=⟨g6,5,none⟩) (by simp only; omega) (uk l.D)).other (p:=⟨g6,6,none⟩) (by simp only; omega) (uk l.P)).other (p:=⟨g6,7,none⟩) (by simp only; omega) (O U l.n)
 have M6:ah ((((((((W7.setCell ⟨g6,0,none⟩ (F TB y.t.length tb)).setCell ⟨g6,1,none⟩ (F OB y.o.length ob)).setCell ⟨g6,2,none⟩ (O U y.got)).setCell ⟨g6,3,none⟩ (O U y.sold)).setCell ⟨g6,4,none⟩ (O U y.missed)).setCell ⟨g6,5,none⟩ (uk l.D)).setCell ⟨g6,6,none⟩ (uk l.P)).setCell ⟨g6,7,none⟩ (O U l.n)) g6 42 [F TB y.t.length tb,F OB y.o.length ob,O U y.got,O U y.sold,O U y.missed,uk l.D,uk l.P,O U l.n]:=oo (K6) (F TB y.t.length tb) (F OB y.o.length ob) (O U y.got) (O U y.sold) (O U y.missed) (uk l.D) (uk l.P) (O U l.n)
 have b9:=dY (g:=g6) (b8) hg6 (F TB y.t.length tb) (F OB y.o.length ob) (O U y.got) (O U y.sold) (O U y.missed) (uk l.D) (uk l.P) (O U l.n)
 obtain ⟨z0,z1,z2,z3,z4,z5,z6,z7⟩:=cells8 K6
 obtain ⟨f0,f1,f2,f3,f4,f5,f6,f7⟩:=frz8 K6
 clear J1 J2 J6 J7 b7 hR6 hb7 K1 K2 hT7 hO7 hT8 hO8 b8 c0 c1 c2 c3 c4 c5 c6 c7 hown
 go_upto_region 10 with fail
 clear K6 z0 z1 z2 z3 z4 z5 z6 z7 f0 f1 f2 f3 f4 f5 f6 f7
 generalize ((((((((W7.setCell ⟨g6,0,none⟩ (F TB y.t.length tb)).setCell ⟨g6,1,none⟩ (F OB y.o.length ob)).setCell ⟨g6,2,none⟩ (O U y.got)).setCell ⟨g6,3,none⟩ (O U y.sold)).setCell ⟨g6,4,none⟩ (O U y.missed)).setCell ⟨g6,5,none⟩ (uk l.D)).setCell ⟨g6,6,none⟩ (uk l.P)).setCell ⟨g6,7,none⟩ (O U l.n))=W8 at M1 M2 M6 b9 hT9 hO9 ⊢
 obtain ⟨cod,hcod⟩ : ∃ cod,ef l ⟨line,rep⟩=cod:=⟨_,rfl⟩
 rw [hcod] at cA
 clear hcod
 obtain ⟨T0,hT0'⟩ : ∃ T0,iO R=T0:=⟨_,rfl⟩
 rw [hT0'] at HRT ⊢
 clear hT0'
 by_cases hlong:200 < T0.size
 ·have hlg:(200:Int) < (T0.size:Int):=by omega
  rw [if_pos hlong] at HRT
  subst HRT
  obtain ⟨c0,c1,c2,c3,c4,c5,c6,c7⟩:=cells8 M1
  go_wp2_with fail
  refine (cA W8).mono ?_
  rintro e W9 ⟨rfl,hb9⟩
  have Q1:=M1.below hb9 M1.lt
  have Q2:=M2.below hb9 M2.lt
  have Q6:=M6.below hb9 M6.lt
  have b10:=b9.trans (hb9.mono b9.size)
  have hTA:=ac hT9 hb9
  have hOA:=ac hO9 hb9
  have gr9:W9.grownBy (((W9.setCell ⟨g6,5,none⟩ (uk l2.D)).setCell ⟨g6,6,none⟩ (uk l2.P)).setCell ⟨g6,7,none⟩ (O U l2.n)) (some g6):=ab (g:=g6) (i:=7) (u:=O U l2.n) (ab (g:=g6) (i:=6) (u:=uk l2.P) (ab (g:=g6) (i:=5) (u:=uk l2.D) (World.grownBy.refl W9 (some g6))))
  have hTB:=aj hTA Q6 fa gr9
  have hOB:=aj hOA Q6 fb gr9
  have R2:ah (((W9.setCell ⟨g6,5,none⟩ (uk l2.D)).setCell ⟨g6,6,none⟩ (uk l2.P)).setCell ⟨g6,7,none⟩ (O U l2.n)) (w.heap.size+1) 42 [F none 0 0,F none 0 0,O U 0,O U 0,O U 0,uk ⟨#[]⟩,uk ⟨#[]⟩,O U 0]:=(((Q2).other (p:=⟨g6,5,none⟩) (by simp only; omega) (uk l2.D)).other (p:=⟨g6,6,none⟩) (by simp only; omega) (uk l2.P)).other (p:=⟨g6,7,none⟩) (by simp only; omega) (O U l2.n)
  have R6:ah (((W9.setCell ⟨g6,5,none⟩ (uk l2.D)).setCell ⟨g6,6,none⟩ (uk l2.P)).setCell ⟨g6,7,none⟩ (O U l2.n)) g6 42 [F TB y.t.length tb,F OB y.o.length ob,O U y.got,O U y.sold,O U y.missed,uk l2.D,uk l2.P,O U l2.n]:=(((Q6).set 5 (uk l2.D)).set 6 (uk l2.P)).set 7 (O U l2.n)
  have b11:=(((b10).setCell (p:=⟨g6,5,none⟩) hg6 (uk l2.D)).setCell (p:=⟨g6,6,none⟩) hg6 (uk l2.P)).setCell (p:=⟨g6,7,none⟩) hg6 (O U l2.n)
  obtain ⟨z0,z1,z2,z3,z4,z5,z6,z7⟩:=cells8 Q6
  obtain ⟨f0,f1,f2,f3,f4,f5,f6,f7⟩:=frz8 Q6
  clear M1 M2 Q1 Q2 hb9 b9 b10 hTA hOA hT9 hO9 gr9 c0 c1 c2 c3 c4 c5 c6 c7
  go_upto_region 13 with fail
  clear M6 Q6 z0 z1 z2 z3 z4 z5 z6 z7 f0 f1 f2 f3 f4 f5 f6 f7
  generalize (((W9.setCell ⟨g6,5,none⟩ (uk l2.D)).setCell ⟨g6,6,none⟩ (uk l2.P)).setCell ⟨g6,7,none⟩ (O U l2.n))=WB at R2 R6 b11 hTB hOB ⊢
  obtain ⟨p0,p1,p2,p3,p4,p5,p6,p7⟩:=cells8 R6
  obtain ⟨z0,z1,z2,z3,z4,z5,z6,z7⟩:=cells8 R2
  obtain ⟨f0,f1,f2,f3,f4,f5,f6,f7⟩:=frz8 R2
  obtain ⟨hTC,hOC⟩:=dV (F TB y.t.length tb) (F OB y.o.length ob) (O U y.got) (O U y.sold) (O U y.missed) (uk l2.D) (uk l2.P) (O U l2.n) R2 hTB hOB
  have bz:=Lib.hid (dY (g:=w.heap.size+1) (b11) hge (F TB y.t.length tb) (F OB y.o.length ob) (O U y.got) (O U y.sold) (O U y.missed) (uk l2.D) (uk l2.P) (O U l2.n))
  have HTC:=Lib.hid hTC
  have HOC:=Lib.hid hOC
  clear R2 R6 b11 hTB hOB hTC hOC
  go_wp2_with fail
  refine bodyPost_ret (v:=.tuple #[.agg #[F TB y.t.length tb,F OB y.o.length ob,O U y.got,O U y.sold,O U y.missed,uk l2.D,uk l2.P,O U l2.n],uk ⟨#[108,111,110,103]⟩]) (by simp [results,Tryz.results14,go_sem, *]) rfl (bP.mk ET.out EO.out EL.out ⟨TB,tb,OB,ob,rfl,HTC.out,HOC.out⟩ bz.out)
 ·have hlg : ¬ (200:Int) < (T0.size:Int):=by omega
  rw [if_neg hlong] at HRT
  subst HRT
  obtain ⟨c0,c1,c2,c3,c4,c5,c6,c7⟩:=cells8 M1
  go_wp2_with fail
  refine (cA W8).mono ?_
  rintro e W9 ⟨rfl,hb9⟩
  have Q1:=M1.below hb9 M1.lt
  have Q2:=M2.below hb9 M2.lt
  have Q6:=M6.below hb9 M6.lt
  have b10:=b9.trans (hb9.mono b9.size)
  have hTA:=ac hT9 hb9
  have hOA:=ac hO9 hb9
  have gr9:W9.grownBy (((W9.setCell ⟨g6,5,none⟩ (uk l2.D)).setCell ⟨g6,6,none⟩ (uk l2.P)).setCell ⟨g6,7,none⟩ (O U l2.n)) (some g6):=ab (g:=g6) (i:=7) (u:=O U l2.n) (ab (g:=g6) (i:=6) (u:=uk l2.P) (ab (g:=g6) (i:=5) (u:=uk l2.D) (World.grownBy.refl W9 (some g6))))
  have hTB:=aj hTA Q6 fa gr9
  have hOB:=aj hOA Q6 fb gr9
  have R2:ah (((W9.setCell ⟨g6,5,none⟩ (uk l2.D)).setCell ⟨g6,6,none⟩ (uk l2.P)).setCell ⟨g6,7,none⟩ (O U l2.n)) (w.heap.size+1) 42 [F none 0 0,F none 0 0,O U 0,O U 0,O U 0,uk ⟨#[]⟩,uk ⟨#[]⟩,O U 0]:=(((Q2).other (p:=⟨g6,5,none⟩) (by simp only; omega) (uk l2.D)).other (p:=⟨g6,6,none⟩) (by simp only; omega) (uk l2.P)).other (p:=⟨g6,7,none⟩) (by simp only; omega) (O U l2.n)
  have R6:ah (((W9.setCell ⟨g6,5,none⟩ (uk l2.D)).setCell ⟨g6,6,none⟩ (uk l2.P)).setCell ⟨g6,7,none⟩ (O U l2.n)) g6 42 [F TB y.t.length tb,F OB y.o.length ob,O U y.got,O U y.sold,O U y.missed,uk l2.D,uk l2.P,O U l2.n]:=(((Q6).set 5 (uk l2.D)).set 6 (uk l2.P)).set 7 (O U l2.n)
  have b11:=(((b10).setCell (p:=⟨g6,5,none⟩) hg6 (uk l2.D)).setCell (p:=⟨g6,6,none⟩) hg6 (uk l2.P)).setCell (p:=⟨g6,7,none⟩) hg6 (O U l2.n)
  obtain ⟨z0,z1,z2,z3,z4,z5,z6,z7⟩:=cells8 Q6
  obtain ⟨f0,f1,f2,f3,f4,f5,f6,f7⟩:=frz8 Q6
  clear M1 M2 Q1 Q2 hb9 b9 b10 hTA hOA hT9 hO9 gr9 c0 c1 c2 c3 c4 c5 c6 c7
  go_upto_region 13 with fail
  clear M6 Q6 z0 z1 z2 z3 z4 z5 z6 z7 f0 f1 f2 f3 f4 f5 f6 f7
  generalize (((W9.setCell ⟨g6,5,none⟩ (uk l2.D)).setCell ⟨g6,6,none⟩ (uk l2.P)).setCell ⟨g6,7,none⟩ (O U l2.n))=WB at R2 R6 b11 hTB hOB ⊢
  obtain ⟨p0,p1,p2,p3,p4,p5,p6,p7⟩:=cells8 R6
  obtain ⟨z0,z1,z2,z3,z4,z5,z6,z7⟩:=cells8 R2
  obtain ⟨f0,f1,f2,f3,f4,f5,f6,f7⟩:=frz8 R2
  obtain ⟨hTC,hOC⟩:=dV (F TB y.t.length tb) (F OB y.o.length ob) (O U y.got) (O U y.sold) (O U y.missed) (uk l2.D) (uk l2.P) (O U l2.n) R2 hTB hOB
  have bz:=Lib.hid (dY (g:=w.heap.size+1) (b11) hge (F TB y.t.length tb) (F OB y.o.length ob) (O U y.got) (O U y.sold) (O U y.missed) (uk l2.D) (uk l2.P) (O U l2.n))
  have HTC:=Lib.hid hTC
  have HOC:=Lib.hid hOC
  clear R2 R6 b11 hTB hOB hTC hOC
  go_wp2_with fail
  refine bodyPost_ret (v:=.tuple #[.agg #[F TB y.t.length tb,F OB y.o.length ob,O U y.got,O U y.sold,O U y.missed,uk l2.D,uk l2.P,O U l2.n],uk rep]) (by simp [results,Tryz.results14,go_sem, *]) rfl (bP.mk ET.out EO.out EL.out ⟨TB,tb,OB,ob,rfl,HTC.out,HOC.out⟩ bz.out)
theorem mP (x:aL) (l:Lg) (line:ByteArray) (w:World) (h:aM w w.heap.size x) (tl:x.t.length≤1048576) (ol:x.o.length≤1048576) (hs:l.D.size+l.P.size≤2000000) (hsl:line.size≤1048576) :
  Calls Tryz.prog 14 #[aD x l,uk line] w (bP w x l line):=by
 cases hok:dK x l
 ·exact sc x l line w h tl ol hs hsl hok
 ·cases hrk:fu.ok ⟨line,⟨#[]⟩⟩
  ·exact qB x l line w h tl ol hs hsl hok hrk
  ·by_cases hn:l.n=60
   ·exact pD x l line w h tl ol hs hsl hok hrk hn
   ·exact qC x l line w h tl ol hs hsl hok hrk hn
end Go.Proofs.YtoeoimhemojdeaaGreatDoor
namespace Go.Proofs
open Go.Shelf
def Tryz.lays156_ren:Go.Shelf.Ren:=⟨fun | 156=>211 | 165=>230 | 166=>231 | 169=>232 | 240=>243 | 241=>244 | 276=>248 | 277=>249 | n=>n,fun | 31=>49 | 9=>9 | 3=>3 | 4=>4 | 0=>0 | 20=>20 | 72=>232 | 76=>174 | 70=>230 | 37=>54 | 75=>173 | 127=>245 | 164=>252 | 5=>5 | 80=>234 | n=>n,fun | n=>n⟩
theorem Tryz.lays156:Go.Proofs.Lays.n156 Tryz.prog Tryz.lays156_ren:={
 mixed:=by kernel_rfl
 f156:=Tryz.func211.trans (congrArg some (by kernel_rfl))
 f165:=Tryz.func230.trans (congrArg some (by kernel_rfl))
 f166:=Tryz.func231.trans (congrArg some (by kernel_rfl))
 f169:=Tryz.func232.trans (congrArg some (by kernel_rfl))
 f240:=Tryz.func243.trans (congrArg some (by kernel_rfl))
 f241:=Tryz.func244.trans (congrArg some (by kernel_rfl))
 f276:=Tryz.func248.trans (congrArg some (by kernel_rfl))
 f277:=Tryz.func249.trans (congrArg some (by kernel_rfl))
 t0:=Tryz.underlying0
 a0:=Tryz.isAgg0
 z0:=Tryz.sizeOf0
 v0:=Tryz.zeroValue0
 t3:=Tryz.underlying3
 a3:=Tryz.isAgg3
 z3:=Tryz.sizeOf3
 v3:=Tryz.zeroValue3
 t4:=Tryz.underlying4
 a4:=Tryz.isAgg4
 z4:=Tryz.sizeOf4
 v4:=Tryz.zeroValue4
 t9:=Tryz.underlying9
 a9:=Tryz.isAgg9
 z9:=Tryz.sizeOf9
 v9:=Tryz.zeroValue9
 t20:=Tryz.underlying20
 a20:=Tryz.isAgg20
 z20:=Tryz.sizeOf20
 v20:=Tryz.zeroValue20
 t31:=Tryz.underlying49
 a31:=Tryz.isAgg49
 z31:=Tryz.sizeOf49
 v31:=Tryz.zeroValue49
 t37:=Tryz.underlying54
 a37:=Tryz.isAgg54
 z37:=Tryz.sizeOf54
 v37:=Tryz.zeroValue54
 t70:=Tryz.underlying230
 a70:=Tryz.isAgg230
 z70:=Tryz.sizeOf230
 v70:=Tryz.zeroValue230
 t72:=Tryz.underlying232
 a72:=Tryz.isAgg232
 z72:=Tryz.sizeOf232
 v72:=Tryz.zeroValue232
 t75:=Tryz.underlying173
 a75:=Tryz.isAgg173
 z75:=Tryz.sizeOf173
 v75:=Tryz.zeroValue173
 t76:=Tryz.underlying174
 a76:=Tryz.isAgg174
 z76:=Tryz.sizeOf174
 v76:=Tryz.zeroValue174
 t127:=Tryz.underlying245
 a127:=Tryz.isAgg245
 z127:=Tryz.sizeOf245
 v127:=Tryz.zeroValue245
 t164:=Tryz.underlying252
 a164:=Tryz.isAgg252
 z164:=Tryz.sizeOf252
 v164:=Tryz.zeroValue252 }
theorem Tryz.Builder_Extra_156:Builder.Extra Tryz.prog Tryz.lays156_ren:={
 sizeBuilder:=by kernel_rfl
 liesBuilder:=by kernel_rfl
 t5:=Tryz.underlying5
 a5:=Tryz.isAgg5
 z5:=Tryz.sizeOf5
 v5:=Tryz.zeroValue5
 infoByte:=by kernel_rfl
 cellsByte:=by kernel_rfl
 sizeByte:=by kernel_rfl
 neB5:=by decide }
open Go.RowKit in
theorem Tryz.strings_Join_none (a:Option Addr) (c:Nat) (sep:ByteArray) (w:World) :
  Calls Tryz.prog 211 #[F a 0 c,uk sep] w fun e w'=>e=.returned (uk ⟨#[]⟩)∧w'=w:=Any.strings_Join_none Tryz.lays156 Tryz.Builder_Extra_156 a c sep w
open Go.RowKit in
theorem Tryz.strings_Join (bk o c:Nat) (xs:List ByteArray) (sep:ByteArray) (w:World) (hcells:∀ (j:Nat) x,xs[j]?=some x→w.cell? ⟨bk,o+j,none⟩=some (uk x)) (hbk:bk < w.heap.size) (hN:xs.length≤140737488355328) (hcap:xs.length≤c) (hlen:(Lib.join (xs.map (·.data.toList)) sep.data.toList).length≤140737488355328) :
  Calls Tryz.prog 211 #[F (some ⟨bk,o,none⟩) xs.length c,uk sep] w fun e w'=>e=.returned (uk ⟨(Lib.join (xs.map (·.data.toList)) sep.data.toList).toArray⟩)∧Below w.heap.size w w':=Any.strings_Join Tryz.lays156 Tryz.Builder_Extra_156 bk o c xs sep w hcells hbk hN hcap hlen
end Go.Proofs
