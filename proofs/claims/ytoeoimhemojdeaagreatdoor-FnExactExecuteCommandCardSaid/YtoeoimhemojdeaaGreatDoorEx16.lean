/- Ex16: the texts ExL ExU OffHeld2 ExV OpenOff OpenRec OpenText OpenLog OpenCon, joined into one file. -/
import Derived.Test.YtoeoimhemojdeaaGreatDoorProg
import Derived.Test.YtoeoimhemojdeaaGreatDoorEx01
import Derived.Test.YtoeoimhemojdeaaGreatDoorEx04
import Derived.Test.YtoeoimhemojdeaaGreatDoorEx07
import Derived.Test.YtoeoimhemojdeaaGreatDoorEx08
import Derived.Test.YtoeoimhemojdeaaGreatDoorEx09
import Derived.Test.YtoeoimhemojdeaaGreatDoorEx12
import Derived.Test.YtoeoimhemojdeaaGreatDoorEx15

set_option linter.unusedVariables false
open Go.Value renaming int → O, slice → F, string → sK
open Go.IntKind renaming i64 → U

namespace Go.Proofs.YtoeoimhemojdeaaGreatDoor
open Go.RowKit
theorem bm.then {w w1 w' : World} {B g:Nat} {x:aL} {l:Lg} {R:Option (Oc × ByteArray)} {e:Ending} (hb:Below w.heap.size w w1) (hBw:B≤w.heap.size) (h:bm w1 B g x l R e w'):bm w B g x l R e w':=by
 rcases h with ⟨h1,h2,h3⟩ | ⟨z,r,h1,h2,h3,h4,h5,h6⟩
 ·exact .inl ⟨h1,h2,aq hb h3⟩
 ·exact .inr ⟨z,r,h1,h2,h3,(hb.mono hBw).trans h4,Nat.le_trans hb.size h5,fun j hj hne=>(h6 j (Nat.lt_of_lt_of_le hj hb.size) hne).trans (hb.block j hj)⟩
theorem bm.ofT {w w' : World} {B g:Nat} {x:aL} {l:Lg} {R:Option ByteArray} {e:Ending} (h:dd w R e w') (hCI:db w B g x.c l) (hBw:B≤w.heap.size):bm w B g x l (R.map (x.c,·)) e w':=by
 obtain ⟨⟨s,rfl,h2⟩,h3⟩:=h
 cases R with
 | none=>exact .inl ⟨rfl,⟨s,rfl⟩,h3⟩
 | some r =>
  have:=h2 r rfl
  subst this
  exact .inr ⟨x.c,s,rfl,rfl,hCI.below h3,h3.mono hBw,h3.size,fun j hj _=>h3.block j hj⟩
theorem bm.form {w w' : World} {B g:Nat} {x:aL} {l:Lg} {R:Option (Oc × ByteArray)} {e:Ending} (h:bm w B g x l R e w'):∃ s b,e=.returned (.tuple #[sK s,.bool b]):=by
 rcases h with ⟨_,⟨s,h2⟩,_⟩ | ⟨z,r,_,h2,_⟩
 ·exact ⟨s,false,h2⟩
 ·exact ⟨r,true,h2⟩
theorem r5 {m:List Int} {rest:List Value} {k:Nat} (h:k < m.length):(bi m++rest)[k]?=some (O U m[k]):=by
 rw [List.getElem?_append_left (by simpa using h),List.getElem?_map,List.getElem?_eq_getElem h]; rfl
set_option maxRecDepth 100000 in
set_option maxHeartbeats 8000000 in
theorem o7 (x:aL) (l:Lg) (line:ByteArray) (g:Nat) (W0 w:World) (hL:ai w g 42 [F x.TA x.t.length x.tc,F x.OA x.o.length x.oc,O U x.got,O U x.sold,O U x.missed,sK l.D,sK l.P,O U l.n]) (hB:W0.heap.size≤g) (hb0:Below W0.heap.size W0 w)
  (hT:w.ownsRow W0.heap.size 104 2 (F x.TA x.t.length x.tc) x.t.length (x.t.flatMap ao.enc)) (hO:w.ownsRow W0.heap.size 147 3 (F x.OA x.o.length x.oc) x.o.length (x.o.flatMap ae.enc)) (G:bj x) (hs:line.size≤1000) (hLW:LW W0) :
  Calls Tryz.prog 52 #[.pointer (some ⟨g,0,none⟩),sK line] w (bm w W0.heap.size g x l (gS x line)):=by
 have hLw:=hLW.then hb0
 have hBw:W0.heap.size≤w.heap.size:=hb0.size
 have hR:aO w w.heap.size x:=⟨aC hT,aC hO⟩
 have hCI:db w W0.heap.size g x.c l:=⟨x.TA,x.tc,x.OA,x.oc,hL,hT,hO⟩
 have hSP:=ro line 32 w (by omega) hLw
 have hpc:=le (b:=32) (n:=1000) (s:=bl line) (by rw [ar]; exact hs)
 have hpm:=lc (b:=32) (n:=1000) (s:=bl line) (by rw [ar]; exact hs)
 have HC0:=Lib.hid (fun h=>oU (x:=x) (line:=line) h)
 have HC1:=Lib.hid (fun ns h=>oV (x:=x) (line:=line) (ns:=ns) h)
 have HWD:Hid (wd (bl line) 0=⟨((aJ 32 (bl line)).getD 0 []).toArray⟩):=rfl
 obtain ⟨ps,hps⟩ : ∃ ps,aJ 32 (bl line)=ps:=⟨_,rfl⟩
 simp only [hps] at hSP hpc hpm HC0 HC1 HWD
 have HPT:=Lib.hid hpm
 obtain ⟨hp1,hp2⟩:=hpc
 obtain ⟨R,hRe⟩ : ∃ R,gS x line=R:=⟨_,rfl⟩
 rw [hRe] at HC0 HC1 ⊢
 obtain ⟨w0,hw0⟩ : ∃ w0,wd (bl line) 0=w0:=⟨_,rfl⟩
 rw [hw0] at HC1 HWD
 clear hps hpm hRe hw0 hT hO
 go_enter Tryz.func52,Tryz.ntmps52
 go_wp2_with fail
 refine hSP.mono ?_
 rintro e w3 ⟨rfl,L8,hb3⟩
 have S3:=Lib.hid (rZ.mk (w:=w) (v:=F none 0 0) (m:=[]) (rest:=[]) hb3 (by rw [List.append_nil]; exact L8) (World.ownsRow_nil _ _ _ _))
 clear hb3 hSP L8
 obtain ⟨N1,hN1⟩ : ∃ N1,ps.length=N1+1:=⟨ps.length - 1,by omega⟩
 rw [hN1]
 generalize hg8:w.heap.size=g8 at S3 ⊢
 by_cases h0N:N1=0
 ·subst h0N
  go_wp2_with fail
  go_loopw [7,9,10,11,17] (fun o _ _ _ i wr=>i=O U 0∧o=F none 0 0∧Hid (rZ w wr g8 ps [] (F none 0 0) [])) (fun _ _ _ _ _ _=>0)
  case atStart=>exact ⟨rfl,rfl,S3⟩
  case round =>
   clear S3
   obtain ⟨rfl,rfl,HS⟩:=hrel
   have HND:da (ps.drop 1)=some []:=by rw [List.drop_eq_nil_of_le (by omega)]; rfl
   obtain ⟨m,hmm⟩ : ∃ m:List Int,([] : List Int)=m:=⟨_,rfl⟩
   rw [hmm] at HS HND
   have e0:m.length=0:=by rw [← hmm]; rfl
   clear hmm
   have HNS:Hid (da (ps.drop 1)=some m):=HND
   have HE:=Lib.hid (HC1.out m HNS.out)
   have S:=HS.out
   have bw:=S.bl
   have hLr:=hL.below bw hL.lt
   have hRr:=hR.then bw
   have LW8:=S.ws
   have hrow:=S.row
   have hCIr:=hCI.below bw
   have hltr:=(hLw.then bw).tab
   have hb0r:=hb0.trans (bw.mono hBw)
   have hBr:W0.heap.size≤wr.heap.size:=hb0r.size
   have c80:wr.cell? ⟨g8,0,none⟩=some (sK w0):=by
    rw [LW8.cell,HWD.out,fF (by omega:0 < ps.length)]; exact gY ps _ _ (by omega)
   have HB:=Lib.hid bw
   have HR1:=HE.out
   clear HC0 HC1 HWD HPT hCI hL hR hLw HE bw
   rw [mf e0] at HR1
   have hc:=mZ x l w0 g wr hLr hRr G hltr
   subst HR1
   go_wp2_with fail
   refine hc.mono ?_
   rintro e w7 hG
   have hM:=bm.then HB.out hBw (bm.ofT hG hCIr hBr)
   obtain ⟨s,b,rfl⟩:=hM.form
   have HM:=Lib.hid hM
   clear hM hG
   go_wp2_with fail
   go_ret2
   exact HM.out
 ·have hN0:0 < N1:=by omega
  go_wp2_with fail
  go_loopw [7,9,10,11,17] (fun o _ _ _ i wr=>∃ (k:Nat) (A:Option Addr) (c:Nat) (m:List Int),k≤N1∧i=O U k∧o=F A m.length c∧m.length≤k∧Hid (rZ w wr g8 ps [] (F A m.length c) m)∧Hid (fi m (ps.drop (k+1))=da (ps.drop 1))) (fun _ _ _ _ i _=>N1 - (intOf i).toNat)
  case atStart=>exact ⟨0,none,0,[],Nat.zero_le _,rfl,rfl,Nat.zero_le _,S3,kU _⟩
  case round =>
   clear S3
   obtain ⟨k,A,c,m,hk,rfl,rfl,hmk,HS,HRN⟩:=hrel
   by_cases hlt:k < N1
   ·have hlp:k+1 < ps.length:=by omega
    have hlt2:(k:Int) < (N1:Int):=by omega
    have c0:wr.cell? ⟨g8,1+k,none⟩=some (sK ⟨(ps[k+1]'hlp).toArray⟩):=by
     rw [HS.out.ws.cell,Nat.add_comm 1 k]; exact gY ps _ _ hlp
    have ht:=HPT.out (ps[k+1]'hlp) (List.getElem_mem _)
    obtain ⟨t,hte⟩ : ∃ t:ByteArray,t=⟨(ps[k+1]'hlp).toArray⟩:=⟨_,rfl⟩
    have hbt:bl t=ps[k+1]'hlp:=by rw [hte,bQ]
    rw [← hte] at c0
    have hzt:t.size≤1000:=by rw [← ar,hbt]; exact ht
    clear hte ht
    have HN0:Hid (cg (bl t)=none→da (ps.drop 1)=none):=fun hn=>by
     rw [← HRN.out]; exact kV hlp (by rw [← hbt]; exact hn)
    have HN1:Hid (∀ n,cg (bl t)=some n→fi (m++[n]) (ps.drop (k+1+1))=da (ps.drop 1)):=fun n hn=>by
     rw [← HRN.out]; exact (kW hlp (by rw [← hbt]; exact hn)).symm
    have hpi:=fun W hW=>nG t W (by omega) hW
    have hLr:=hLw.then HS.out.bl
    unfold gZ at hpi
    obtain ⟨q,hq⟩ : ∃ q,cg (bl t)=q:=⟨_,rfl⟩
    rw [hq] at HN0 HN1 hpi
    clear hq hbt
    cases q with
    | none =>
     have HE:=HC0.out (HN0.out rfl)
     simp only [Option.isSome_none,Option.getD_none] at hpi
     rw [HE]
     clear HE
     go_wp2_with fail
     refine (hpi _ hLr).mono ?_
     rintro e w4 ⟨rfl,hb4⟩
     have b5:=Lib.hid (aq HS.out.bl hb4)
     clear hb4 HS HRN
     go_wp2_with fail
     go_ret2
     exact bm.no b5.out
    | some n =>
     have HN:=Lib.hid (HN1.out n rfl)
     simp only [Option.isSome_some,Option.getD_some] at hpi
     go_wp2_with fail
     refine (hpi _ hLr).mono ?_
     rintro e w4 ⟨rfl,hb4⟩
     have HS4:=Lib.hid (HS.out.then hb4)
     have HRW:=Lib.hid HS4.out.row
     have hsz:w.heap.size≤w4.heap.size:=HS4.out.bl.size
     go_wp2_with (at_builtin; refine ch (w0:=w4) rfl _ _ 100 rfl 3 _ 1 8 Tryz.underlying100 gw rfl (by omega) (by omega) w.heap.size _ _ _ rfl HRW #[O U n] 1 _ rfl (by first | rfl | exact Array.size_push _) rfl (by simp [Value.oneCell']) (by omega) hsz rfl rfl rfl rfl ?_; intro v6 w6 HO6 hg6 hb6)
     have HNEW:=Lib.hid (HS4.out.push (n:=n) HO6.out hg6 hb6)
     obtain ⟨A6,c6,hv6⟩:=av HO6.out
     subst hv6
     go_wp2
     go_roundw
     case rel=>exact ⟨k+1,A6,c6,m++[n],by omega,by go_num,by simp,by simp; omega,by rw [Hid]; simpa using HNEW.out,HN.out⟩
     case measure=>simp [intOf]; omega
   ·have hlt2 : ¬ (k:Int) < (N1:Int):=by omega
    have HND:da (ps.drop 1)=some m:=by
     have h1:=HRN.out; rw [List.drop_eq_nil_of_le (by omega),mb] at h1; exact h1.symm
    have hlt0:=hL.lt
    have HNS:Hid (da (ps.drop 1)=some m):=HND
    have HE:=Lib.hid (HC1.out m HNS.out)
    have S:=HS.out
    have bw:=S.bl
    have hLr:=hL.below bw hL.lt
    have hRr:=hR.then bw
    have LW8:=S.ws
    have hrow:=S.row
    have hCIr:=hCI.below bw
    have hltr:=(hLw.then bw).tab
    have hb0r:=hb0.trans (bw.mono hBw)
    have hBr:W0.heap.size≤wr.heap.size:=hb0r.size
    have c80:wr.cell? ⟨g8,0,none⟩=some (sK w0):=by
     rw [LW8.cell,HWD.out,fF (by omega:0 < ps.length)]; exact gY ps _ _ (by omega)
    have hpsN:0 < N1+1:=by omega
    have HB:=Lib.hid bw
    have HR1:=HE.out
    clear HC0 HC1 HWD HPT hCI hL hR hLw HE bw
    clear HRN
    by_cases e0:m.length=0
    ·have z0:((m.length:Int) == 0)=true:=by rw [e0]; rfl
     have z1:((m.length:Int) == 1)=false:=beq_false_of_ne (by omega)
     have z2:((m.length:Int) == 2)=false:=beq_false_of_ne (by omega)
     have z3:((m.length:Int) == 3)=false:=beq_false_of_ne (by omega)
     rw [mf e0] at HR1
     have hc:=mZ x l w0 g wr hLr hRr G hltr
     subst HR1
     go_wp2_with fail
     refine hc.mono ?_
     rintro e w7 hG
     have hM:=bm.then HB.out hBw (bm.ofT hG hCIr hBr)
     obtain ⟨s,b,rfl⟩:=hM.form
     have HM:=Lib.hid hM
     clear hM hG
     go_wp2_with fail
     go_ret2
     exact HM.out
    by_cases e1:m.length=1
    ·have z0:((m.length:Int) == 0)=false:=beq_false_of_ne (by omega)
     have z1:((m.length:Int) == 1)=true:=by rw [e1]; rfl
     have z2:((m.length:Int) == 2)=false:=beq_false_of_ne (by omega)
     have z3:((m.length:Int) == 3)=false:=beq_false_of_ne (by omega)
     obtain ⟨gN,cN,rN,hv,hgN,LN,_⟩:=bG hrow (by omega)
     injection hv with ea eb ec
     subst ea; subst ec
     clear eb
     have hm0:(0:Int) < (m.length:Int):=by omega
     have hn0:0 < m.length:=by omega
     have d0n:wr.cell? ⟨gN,0,none⟩=some (O U (m[0]'hn0)):=by rw [LN.cell]; exact r5 hn0
     rw [qs e1 hn0] at HR1
     obtain ⟨a0,ha0⟩ : ∃ a,m[0]'hn0=a:=⟨_,rfl⟩
     rw [ha0] at d0n HR1
     clear ha0
     cases hq:fY x w0 a0 with
     | none =>
      have hc:∀ W,ai W g 42 [F x.TA x.t.length x.tc,F x.OA x.o.length x.oc,O U x.got,O U x.sold,O U x.missed,sK l.D,sK l.P,O U l.n]→aO W W.heap.size x→iB W→Calls Tryz.prog 98 #[.pointer (some ⟨g,0,none⟩),sK w0,O U a0] W fun e w'=>(∃ s,e=.returned (.tuple #[sK s,.bool false]))∧Below W.heap.size W w':=fun W hL hR hT=>by
       have:=qt x l w0 a0 g W hL hR G hT
       rw [hq] at this
       exact this.mono fun _ _ ⟨⟨s,h1,_⟩,h2⟩=>⟨⟨s,h1⟩,h2⟩
      rw [hq] at HR1
      simp only [Option.map_none] at HR1
      clear hq
      subst HR1
      go_wp2_with fail
      refine am (fun _=>(fun W9=>Below wr.heap.size wr W9)) (fun _ w1 w2=>Below w1.heap.size w1 w2) (by kernel_rfl) (by kernel_rfl) (by kernel_rfl) (Below.refl _ _).drew ?_
      simp only [aw,Act.put,List.setIfInBounds_toArray,List.set_cons_zero,List.set_cons_succ,Nat.zero_add,Nat.reduceAdd]
      apply aa
      case h1 =>
       intro vs L9 w9 hG9 hC9 hB K9 hK9
       simp only [Act.put,sA,s0,s1] at hK9
       go_simp
       exact hK9 _ _ rfl hC9 (Below.refl _ _)
      apply aa
      case h1 =>
       intro vs L9 w9 hG9 hC9 hB K9 hK9
       simp only [Act.put,sA,s0,s1] at hK9
       go_simp
       exact hK9 _ _ rfl hC9 (Below.refl _ _)
      apply aa
      case h1 =>
       intro vs L9 w9 hG9 hC9 hB K9 hK9
       have d1:=fe hB 1
       simp only [d1] at hK9 ⊢
       simp only [Act.put,sA,s0,s1] at hK9
       go_simp
       exact hK9 _ _ rfl hC9 (Below.refl _ _)
      apply aa
      case h1 =>
       intro vs L9 w9 hG9 hC9 hB K9 hK9
       have d2:=fe hB 2
       simp only [d2] at hK9 ⊢
       have q0:w9.cell? ⟨g8,0,none⟩=some (sK w0):=(hC9.cell LW8.lt).trans c80
       simp only [Act.put,sA,s0,s1] at hK9
       go_simp
       exact hK9 _ _ rfl hC9 (Below.refl _ _)
      apply aa
      case h1 =>
       intro vs L9 w9 hG9 hC9 hB K9 hK9
       simp only [Act.put,sA,s0,s1] at hK9
       go_simp
       exact hK9 _ _ rfl hC9 (Below.refl _ _)
      apply aa
      case h1 =>
       intro vs L9 w9 hG9 hC9 hB K9 hK9
       have d4:=fe hB 4
       simp only [d4] at hK9 ⊢
       simp only [Act.put,sA,s0,s1] at hK9
       go_simp
       exact hK9 _ _ rfl hC9 (Below.refl _ _)
      apply aa
      case h1 =>
       intro vs L9 w9 hG9 hC9 hB K9 hK9
       have d5:=fe hB 5
       simp only [d5] at hK9 ⊢
       have q0:w9.cell? ⟨gN,0,none⟩=some (O U a0):=(hC9.cell LN.lt).trans d0n
       simp only [Act.put,sA,s0,s1] at hK9
       go_simp
       exact hK9 _ _ rfl hC9 (Below.refl _ _)
      refine ak [] (fun v _=>∃ s,v=.tuple #[sK s,.bool false]) ?_ (fun vs L9 w9 hG9 hC9 hB K9 hK9=>?_) ?_
      next =>
       intro i9 hi9 hb9 ha9 v w1 w2 hv hT9
       exact hv
      next =>
       have d0:=fe hB 0
       have d3:=fe hB 3
       have d6:=fe hB 6
       simp only [d0,d3,d6] at hK9 ⊢
       simp only [Act.put,sA,s0,s1] at hK9
       go_simp
       refine (hc w9 (hLr.below hC9 hLr.lt) (hRr.then hC9) (hltr.then hC9)).mono ?_
       rintro en w8 ⟨⟨s,rfl⟩,hb8⟩
       exact hK9 _ _ _ rfl ⟨s,rfl⟩ (hC9.trans (hb8.mono hC9.size)) (hb8)
      refine ak [] (fun v _=>∃ s,v=sK s) ?_ (fun vs L9 w9 hG9 hC9 hB K9 hK9=>?_) ?_
      next =>
       intro i9 hi9 hb9 ha9 v w1 w2 hv hT9
       exact hv
      next =>
       simp only [Act.put,sA,s0,s1] at hK9
       obtain ⟨s,e0⟩:=fs hB 7
       simp only [e0] at hK9 ⊢
       go_simp
       exact hK9 _ _ _ rfl ⟨s,rfl⟩ hC9 (Below.refl _ _)
      refine aa (.bool false) (fun vs L9 w9 hG9 hC9 hB K9 hK9=>?_) ?_
      next =>
       obtain ⟨s,e0⟩:=fs hB 7
       simp only [e0] at hK9 ⊢
       go_simp
       exact hK9 _ _ rfl hC9 (Below.refl _ _)
      refine ak [] (fun v _=>∃ s,v=sK s) ?_ (fun vs L9 w9 hG9 hC9 hB K9 hK9=>?_) ?_
      next =>
       intro i9 hi9 hb9 ha9 v w1 w2 hv hT9
       exact hv
      next =>
       simp only [Act.put,sA,s0,s1] at hK9
       obtain ⟨s,e0⟩:=fs hB 8
       simp only [e0] at hK9 ⊢
       go_simp
       exact hK9 _ _ _ rfl ⟨s,rfl⟩ hC9 (Below.refl _ _)
      apply aa
      case h1 =>
       intro vs L9 w9 hG9 hC9 hB K9 hK9
       have d9:=fe hB 9
       simp only [d9] at hK9 ⊢
       simp only [Act.put,sA,s0,s1] at hK9
       go_simp
       exact hK9 _ _ rfl hC9 (Below.refl _ _)
      refine ay fun vs L9 w9 hL9 hC9 hB=>?_
      obtain ⟨s,dl⟩:=hB 10 _ rfl rfl (by decide)
      have dm:=ag.eq (hB 11 _ rfl rfl (by decide))
      simp only [dl,dm]
      clear hB dl dm
      have HBB:=Lib.hid (aq HB.out hC9)
      go_wp2_with fail
      go_ret2
      exact bm.no HBB.out
     | some rp =>
      have hc:∀ W,ai W g 42 [F x.TA x.t.length x.tc,F x.OA x.o.length x.oc,O U x.got,O U x.sold,O U x.missed,sK l.D,sK l.P,O U l.n]→aO W W.heap.size x→iB W→Calls Tryz.prog 98 #[.pointer (some ⟨g,0,none⟩),sK w0,O U a0] W fun e w'=>e=.returned (.tuple #[sK rp,.bool true])∧Below W.heap.size W w':=fun W hL hR hT=>by
       have:=qt x l w0 a0 g W hL hR G hT
       rw [hq] at this
       exact this.mono fun _ _ ⟨⟨s,h1,h3⟩,h2⟩=>⟨by rw [h1,h3 rp rfl]; rfl,h2⟩
      rw [hq] at HR1
      simp only [Option.map_some] at HR1
      clear hq
      subst HR1
      go_wp2_with fail
      refine am (fun _=>(fun W9=>Below wr.heap.size wr W9)) (fun _ w1 w2=>Below w1.heap.size w1 w2) (by kernel_rfl) (by kernel_rfl) (by kernel_rfl) (Below.refl _ _).drew ?_
      simp only [aw,Act.put,List.setIfInBounds_toArray,List.set_cons_zero,List.set_cons_succ,Nat.zero_add,Nat.reduceAdd]
      apply aa
      case h1 =>
       intro vs L9 w9 hG9 hC9 hB K9 hK9
       simp only [Act.put,sA,s0,s1] at hK9
       go_simp
       exact hK9 _ _ rfl hC9 (Below.refl _ _)
      apply aa
      case h1 =>
       intro vs L9 w9 hG9 hC9 hB K9 hK9
       simp only [Act.put,sA,s0,s1] at hK9
       go_simp
       exact hK9 _ _ rfl hC9 (Below.refl _ _)
      apply aa
      case h1 =>
       intro vs L9 w9 hG9 hC9 hB K9 hK9
       have d1:=fe hB 1
       simp only [d1] at hK9 ⊢
       simp only [Act.put,sA,s0,s1] at hK9
       go_simp
       exact hK9 _ _ rfl hC9 (Below.refl _ _)
      apply aa
      case h1 =>
       intro vs L9 w9 hG9 hC9 hB K9 hK9
       have d2:=fe hB 2
       simp only [d2] at hK9 ⊢
       have q0:w9.cell? ⟨g8,0,none⟩=some (sK w0):=(hC9.cell LW8.lt).trans c80
       simp only [Act.put,sA,s0,s1] at hK9
       go_simp
       exact hK9 _ _ rfl hC9 (Below.refl _ _)
      apply aa
      case h1 =>
       intro vs L9 w9 hG9 hC9 hB K9 hK9
       simp only [Act.put,sA,s0,s1] at hK9
       go_simp
       exact hK9 _ _ rfl hC9 (Below.refl _ _)
      apply aa
      case h1 =>
       intro vs L9 w9 hG9 hC9 hB K9 hK9
       have d4:=fe hB 4
       simp only [d4] at hK9 ⊢
       simp only [Act.put,sA,s0,s1] at hK9
       go_simp
       exact hK9 _ _ rfl hC9 (Below.refl _ _)
      apply aa
      case h1 =>
       intro vs L9 w9 hG9 hC9 hB K9 hK9
       have d5:=fe hB 5
       simp only [d5] at hK9 ⊢
       have q0:w9.cell? ⟨gN,0,none⟩=some (O U a0):=(hC9.cell LN.lt).trans d0n
       simp only [Act.put,sA,s0,s1] at hK9
       go_simp
       exact hK9 _ _ rfl hC9 (Below.refl _ _)
      refine aa (.tuple #[sK rp,.bool true]) (fun vs L9 w9 hG9 hC9 hB K9 hK9=>?_) ?_
      next =>
       have d0:=fe hB 0
       have d3:=fe hB 3
       have d6:=fe hB 6
       simp only [d0,d3,d6] at hK9 ⊢
       go_simp
       refine (hc w9 (hLr.below hC9 hLr.lt) (hRr.then hC9) (hltr.then hC9)).mono ?_
       rintro en w8 ⟨rfl,hb8⟩
       exact hK9 _ _ rfl (hC9.trans (hb8.mono hC9.size)) (hb8)
      apply aa
      case h1 =>
       intro vs L9 w9 hG9 hC9 hB K9 hK9
       have d7:=fe hB 7
       simp only [d7] at hK9 ⊢
       simp only [Act.put,sA,s0,s1] at hK9
       go_simp
       exact hK9 _ _ rfl hC9 (Below.refl _ _)
      apply aa
      case h1 =>
       intro vs L9 w9 hG9 hC9 hB K9 hK9
       have d7:=fe hB 7
       simp only [d7] at hK9 ⊢
       simp only [Act.put,sA,s0,s1] at hK9
       go_simp
       exact hK9 _ _ rfl hC9 (Below.refl _ _)
      apply aa
      case h1 =>
       intro vs L9 w9 hG9 hC9 hB K9 hK9
       have d8:=fe hB 8
       simp only [d8] at hK9 ⊢
       simp only [Act.put,sA,s0,s1] at hK9
       go_simp
       exact hK9 _ _ rfl hC9 (Below.refl _ _)
      apply aa
      case h1 =>
       intro vs L9 w9 hG9 hC9 hB K9 hK9
       have d9:=fe hB 9
       simp only [d9] at hK9 ⊢
       simp only [Act.put,sA,s0,s1] at hK9
       go_simp
       exact hK9 _ _ rfl hC9 (Below.refl _ _)
      refine ay fun vs L9 w9 hL9 hC9 hB=>?_
      have dl:=ag.eq (hB 10 _ rfl rfl (by decide))
      have dm:=ag.eq (hB 11 _ rfl rfl (by decide))
      simp only [dl,dm]
      clear hB dl dm
      have HBB:=Lib.hid (aq HB.out hC9)
      have HCC:=Lib.hid (hCIr.below hC9)
      go_wp2_with fail
      go_ret2
      exact bm.yes rfl HCC.out (HBB.out.mono hBw) HBB.out.size (fun j hj _=>HBB.out.block j hj)
    by_cases e2:m.length=2
    ·have z0:((m.length:Int) == 0)=false:=beq_false_of_ne (by omega)
     have z1:((m.length:Int) == 1)=false:=beq_false_of_ne (by omega)
     have z2:((m.length:Int) == 2)=true:=by rw [e2]; rfl
     have z3:((m.length:Int) == 3)=false:=beq_false_of_ne (by omega)
     obtain ⟨gN,cN,rN,hv,hgN,LN,_⟩:=bG hrow (by omega)
     injection hv with ea eb ec
     subst ea; subst ec
     clear eb
     have hm0:(0:Int) < (m.length:Int):=by omega
     have hn0:0 < m.length:=by omega
     have hc:=o6 x l w0 (some ⟨gN,0,none⟩) c m (by omega) (by omega) g W0 wr hLr hB hb0r hRr (aC hrow) (by intro e; injection e with e; have h1:=hgN; have h2:=hlt0; simp only at e; omega) hLW.tab
     subst HR1
     rw [e2] at hc
     have HC:=Lib.hid hc
     clear hc
     go_upto_region 18 with fail
     go_wp2_with fail
     refine HC.out.mono ?_
     rintro e w7 hG
     have hM:=bm.then HB.out hBw hG
     obtain ⟨s,b,rfl⟩:=hM.form
     have HM:=Lib.hid hM
     clear hM hG
     go_wp2_with fail
     go_ret2
     exact HM.out
    by_cases e3:m.length=3
    ·have z0:((m.length:Int) == 0)=false:=beq_false_of_ne (by omega)
     have z1:((m.length:Int) == 1)=false:=beq_false_of_ne (by omega)
     have z2:((m.length:Int) == 2)=false:=beq_false_of_ne (by omega)
     have z3:((m.length:Int) == 3)=true:=by rw [e3]; rfl
     obtain ⟨gN,cN,rN,hv,hgN,LN,_⟩:=bG hrow (by omega)
     injection hv with ea eb ec
     subst ea; subst ec
     clear eb
     have hm0:(0:Int) < (m.length:Int):=by omega
     have hn0:0 < m.length:=by omega
     have hc:=o6 x l w0 (some ⟨gN,0,none⟩) c m (by omega) (by omega) g W0 wr hLr hB hb0r hRr (aC hrow) (by intro e; injection e with e; have h1:=hgN; have h2:=hlt0; simp only at e; omega) hLW.tab
     subst HR1
     rw [e3] at hc
     have HC:=Lib.hid hc
     clear hc
     go_upto_region 18 with fail
     go_wp2_with fail
     refine HC.out.mono ?_
     rintro e w7 hG
     have hM:=bm.then HB.out hBw hG
     obtain ⟨s,b,rfl⟩:=hM.form
     have HM:=Lib.hid hM
     clear hM hG
     go_wp2_with fail
     go_ret2
     exact HM.out
    have z0:((m.length:Int) == 0)=false:=beq_false_of_ne (by omega)
    have z1:((m.length:Int) == 1)=false:=beq_false_of_ne (by omega)
    have z2:((m.length:Int) == 2)=false:=beq_false_of_ne (by omega)
    have z3:((m.length:Int) == 3)=false:=beq_false_of_ne (by omega)
    rw [oW (by omega)] at HR1
    subst HR1
    go_wp2_with fail
    go_ret2
    exact bm.no HB.out
def qu:Option (Oc × ByteArray)→ByteArray
 | none=>⟨#[63]⟩
 | some r=>if 200 < r.2.size then ⟨#[108,111,110,103]⟩ else r.2
theorem sm (x:aL) (line:ByteArray):kx x line=qu (gS x line):=by unfold kx; cases gS x line <;> rfl
theorem qv (x:aL) (line:ByteArray):oQ x line=es x (gS x line):=by unfold oQ; cases gS x line <;> rfl
theorem p9 (R:Option (Oc × ByteArray)):(qu R).size≤200:=by
 cases R with
 | none=>show (1:Nat)≤200; omega
 | some r =>
  unfold qu; simp only
  split
  ·show (4:Nat)≤200; omega
  ·omega
theorem mj {w w' : World} {g b:Nat} {t:TypeId} {cs:List Value} (h:∀ j,j < w.heap.size→j ≠ g→w'.heap[j]?=w.heap[j]?) (hL:ai w b t cs) (hne:b ≠ g):ai w' b t cs:=(h b hL.lt hne).trans hL
set_option maxRecDepth 100000 in
set_option maxHeartbeats 8000000 in
theorem rq (x:aL) (l:Lg) (line:ByteArray) (w:World) (h:aO w w.heap.size x) (tl:x.t.length≤1048576) (ol:x.o.length≤1048576) (hs:l.D.size+l.P.size≤2000000) (hsl:line.size≤1048576) (hLW:LW w) (hok:dS x l=false) :
  Calls Tryz.prog 16 #[aG x l,sK line] w (bL w x l line):=by
 have L1:=(ai.new w 42 #[F x.TA x.t.length x.tc,F x.OA x.o.length x.oc,O U x.got,O U x.sold,O U x.missed,sK l.D,sK l.P,O U l.n]).alloc (.cells #[F none 0 0,F none 0 0,O U 0,O U 0,O U 0,sK ⟨#[]⟩,sK ⟨#[]⟩,O U 0] 42)
 have L2:=ai.new1 w (.cells #[F x.TA x.t.length x.tc,F x.OA x.o.length x.oc,O U x.got,O U x.sold,O U x.missed,sK l.D,sK l.P,O U l.n] 42) 42 #[F none 0 0,F none 0 0,O U 0,O U 0,O U 0,sK ⟨#[]⟩,sK ⟨#[]⟩,O U 0]
 have b1:=(Below.refl w.heap.size w).alloc (Nat.le_refl _) (.cells #[F x.TA x.t.length x.tc,F x.OA x.o.length x.oc,O U x.got,O U x.sold,O U x.missed,sK l.D,sK l.P,O U l.n] 42)
 have b2:=b1.alloc b1.size (.cells #[F none 0 0,F none 0 0,O U 0,O U 0,O U 0,sK ⟨#[]⟩,sK ⟨#[]⟩,O U 0] 42)
 have hW:=h.up b2 (Nat.le_refl _)
 have hge:w.heap.size≤w.heap.size+1:=by omega
 clear b1 h
 go_enter Tryz.func16,Tryz.ntmps16
 go_wp2_with fail
 generalize ((w.alloc (.cells #[F x.TA x.t.length x.tc,F x.OA x.o.length x.oc,O U x.got,O U x.sold,O U x.missed,sK l.D,sK l.P,O U l.n] 42)).alloc (.cells #[F none 0 0,F none 0 0,O U 0,O U 0,O U 0,sK ⟨#[]⟩,sK ⟨#[]⟩,O U 0] 42))=W at L1 L2 b2 hW ⊢
 refine (dK x l W hW hs (hLW.then b2).tab).mono ?_
 rintro e W3 ⟨rfl,hb3⟩
 have K1:=L1.below hb3 L1.lt
 have K2:=L2.below hb3 L2.lt
 have b5:=b2.trans (hb3.mono b2.size)
 have hW3:=hW.then hb3
 clear hb3 L1 L2 b2 hW
 rw [hok]
 go_wp2_with fail
 refine (ey x l w.heap.size W3 K1 hW3 tl ol).mono ?_
 rintro e W9 ⟨v,rfl,⟨TA,tc,OA,oc,rfl,hT0,hO0⟩,hb9⟩
 have Q2:=K2.below hb9 K2.lt
 have b9:=b5.trans (hb9.mono b5.size)
 have hT3:=af hT0 b5.size
 have hO3:=af hO0 b5.size
 obtain ⟨z0,z1,z2,z3,z4,z5,z6,z7⟩:=cells8 Q2
 obtain ⟨f0,f1,f2,f3,f4,f5,f6,f7⟩:=frz8 Q2
 obtain ⟨hT4,hO4⟩:=dF (F TA x.c.t.length tc) (F OA x.c.o.length oc) (O U x.c.got) (O U x.c.sold) (O U x.c.missed) (sK l.D) (sK l.P) (O U l.n) Q2 hT3 hO3
 have bz:=Lib.hid (dM (g:=w.heap.size+1) (b9) hge (F TA x.c.t.length tc) (F OA x.c.o.length oc) (O U x.c.got) (O U x.c.sold) (O U x.c.missed) (sK l.D) (sK l.P) (O U l.n))
 have HT4:=Lib.hid hT4
 have HO4:=Lib.hid hO4
 clear K1 K2 Q2 b5 b9 hb9 hT0 hO0 hT3 hO3 hW3 hT4 hO4
 go_wp2_with fail
 refine bodyPost_ret (v:=.tuple #[.agg #[F TA x.c.t.length tc,F OA x.c.o.length oc,O U x.c.got,O U x.c.sold,O U x.c.missed,sK l.D,sK l.P,O U l.n],sK ⟨#[110,111]⟩]) (by simp [results,Tryz.results16,go_sem, *]) rfl (bL.mk (by unfold gU; rw [if_neg (by rw [hok]; exact Bool.false_ne_true)]) (by unfold eV; rw [if_neg (by rw [hok]; exact Bool.false_ne_true)]) (by unfold gV; rw [if_neg (by rw [hok]; exact Bool.false_ne_true)]) ⟨TA,tc,OA,oc,rfl,HT4.out,HO4.out⟩ bz.out)
set_option maxRecDepth 100000 in
set_option maxHeartbeats 8000000 in
theorem qa (x:aL) (l:Lg) (line:ByteArray) (w:World) (h:aO w w.heap.size x) (tl:x.t.length≤1048576) (ol:x.o.length≤1048576) (hs:l.D.size+l.P.size≤2000000) (hsl:line.size≤1048576) (hLW:LW w) (hok:dS x l=true) (hrk:eT.ok ⟨line,⟨#[]⟩⟩=false) :
  Calls Tryz.prog 16 #[aG x l,sK line] w (bL w x l line):=by
 have L1:=(ai.new w 42 #[F x.TA x.t.length x.tc,F x.OA x.o.length x.oc,O U x.got,O U x.sold,O U x.missed,sK l.D,sK l.P,O U l.n]).alloc (.cells #[F none 0 0,F none 0 0,O U 0,O U 0,O U 0,sK ⟨#[]⟩,sK ⟨#[]⟩,O U 0] 42)
 have L2:=ai.new1 w (.cells #[F x.TA x.t.length x.tc,F x.OA x.o.length x.oc,O U x.got,O U x.sold,O U x.missed,sK l.D,sK l.P,O U l.n] 42) 42 #[F none 0 0,F none 0 0,O U 0,O U 0,O U 0,sK ⟨#[]⟩,sK ⟨#[]⟩,O U 0]
 have b1:=(Below.refl w.heap.size w).alloc (Nat.le_refl _) (.cells #[F x.TA x.t.length x.tc,F x.OA x.o.length x.oc,O U x.got,O U x.sold,O U x.missed,sK l.D,sK l.P,O U l.n] 42)
 have b2:=b1.alloc b1.size (.cells #[F none 0 0,F none 0 0,O U 0,O U 0,O U 0,sK ⟨#[]⟩,sK ⟨#[]⟩,O U 0] 42)
 have hW:=h.up b2 (Nat.le_refl _)
 have hge:w.heap.size≤w.heap.size+1:=by omega
 clear b1 h
 go_enter Tryz.func16,Tryz.ntmps16
 go_wp2_with fail
 generalize ((w.alloc (.cells #[F x.TA x.t.length x.tc,F x.OA x.o.length x.oc,O U x.got,O U x.sold,O U x.missed,sK l.D,sK l.P,O U l.n] 42)).alloc (.cells #[F none 0 0,F none 0 0,O U 0,O U 0,O U 0,sK ⟨#[]⟩,sK ⟨#[]⟩,O U 0] 42))=W at L1 L2 b2 hW ⊢
 refine (dK x l W hW hs (hLW.then b2).tab).mono ?_
 rintro e W3 ⟨rfl,hb3⟩
 have K1:=L1.below hb3 L1.lt
 have K2:=L2.below hb3 L2.lt
 have b5:=b2.trans (hb3.mono b2.size)
 have hW3:=hW.then hb3
 clear hb3 L1 L2 b2 hW
 rw [hok]
 go_wp2_with fail
 refine (ed ⟨line,⟨#[]⟩⟩ W3 (Nat.le_trans hsl (by decide)) (show (0:Nat)≤1000000000 by omega)).mono ?_
 rintro e W4 ⟨rfl,hb4⟩
 have N1:=K1.below hb4 K1.lt
 have N2:=K2.below hb4 K2.lt
 have b6:=b5.trans (hb4.mono b5.size)
 have hW4:=hW3.then hb4
 clear hb4 K1 K2 b5 hW3
 rw [hrk]
 go_wp2_with fail
 refine (ey x l w.heap.size W4 N1 hW4 tl ol).mono ?_
 rintro e W9 ⟨v,rfl,⟨TA,tc,OA,oc,rfl,hT0,hO0⟩,hb9⟩
 have Q2:=N2.below hb9 N2.lt
 have b9:=b6.trans (hb9.mono b6.size)
 have hT3:=af hT0 b6.size
 have hO3:=af hO0 b6.size
 obtain ⟨z0,z1,z2,z3,z4,z5,z6,z7⟩:=cells8 Q2
 obtain ⟨f0,f1,f2,f3,f4,f5,f6,f7⟩:=frz8 Q2
 obtain ⟨hT4,hO4⟩:=dF (F TA x.c.t.length tc) (F OA x.c.o.length oc) (O U x.c.got) (O U x.c.sold) (O U x.c.missed) (sK l.D) (sK l.P) (O U l.n) Q2 hT3 hO3
 have bz:=Lib.hid (dM (g:=w.heap.size+1) (b9) hge (F TA x.c.t.length tc) (F OA x.c.o.length oc) (O U x.c.got) (O U x.c.sold) (O U x.c.missed) (sK l.D) (sK l.P) (O U l.n))
 have HT4:=Lib.hid hT4
 have HO4:=Lib.hid hO4
 clear N1 N2 Q2 b6 b9 hb9 hT0 hO0 hT3 hO3 hW4 hT4 hO4
 go_wp2_with fail
 refine bodyPost_ret (v:=.tuple #[.agg #[F TA x.c.t.length tc,F OA x.c.o.length oc,O U x.c.got,O U x.c.sold,O U x.c.missed,sK l.D,sK l.P,O U l.n],sK ⟨#[98,97,100]⟩]) (by simp [results,Tryz.results16,go_sem, *]) rfl (bL.mk (by unfold gU; rw [if_pos hok,if_neg (by rw [hrk]; exact Bool.false_ne_true)]) (by unfold eV; rw [if_pos hok,if_neg (by rw [hrk]; exact Bool.false_ne_true)]) (by unfold gV; rw [if_pos hok,if_neg (by rw [hrk]; exact Bool.false_ne_true)]) ⟨TA,tc,OA,oc,rfl,HT4.out,HO4.out⟩ bz.out)
set_option maxRecDepth 100000 in
set_option maxHeartbeats 8000000 in
theorem o8 (x:aL) (l:Lg) (line:ByteArray) (w:World) (h:aO w w.heap.size x) (tl:x.t.length≤1048576) (ol:x.o.length≤1048576) (hs:l.D.size+l.P.size≤2000000) (hsl:line.size≤1048576) (hLW:LW w) (hok:dS x l=true) (hrk:eT.ok ⟨line,⟨#[]⟩⟩=true) (hn:l.n=60) :
  Calls Tryz.prog 16 #[aG x l,sK line] w (bL w x l line):=by
 have hne:(l.n == 60)=true:=by rw [hn]; rfl
 have HN:=Lib.hid hn
 clear hn
 have L1:=(ai.new w 42 #[F x.TA x.t.length x.tc,F x.OA x.o.length x.oc,O U x.got,O U x.sold,O U x.missed,sK l.D,sK l.P,O U l.n]).alloc (.cells #[F none 0 0,F none 0 0,O U 0,O U 0,O U 0,sK ⟨#[]⟩,sK ⟨#[]⟩,O U 0] 42)
 have L2:=ai.new1 w (.cells #[F x.TA x.t.length x.tc,F x.OA x.o.length x.oc,O U x.got,O U x.sold,O U x.missed,sK l.D,sK l.P,O U l.n] 42) 42 #[F none 0 0,F none 0 0,O U 0,O U 0,O U 0,sK ⟨#[]⟩,sK ⟨#[]⟩,O U 0]
 have b1:=(Below.refl w.heap.size w).alloc (Nat.le_refl _) (.cells #[F x.TA x.t.length x.tc,F x.OA x.o.length x.oc,O U x.got,O U x.sold,O U x.missed,sK l.D,sK l.P,O U l.n] 42)
 have b2:=b1.alloc b1.size (.cells #[F none 0 0,F none 0 0,O U 0,O U 0,O U 0,sK ⟨#[]⟩,sK ⟨#[]⟩,O U 0] 42)
 have hW:=h.up b2 (Nat.le_refl _)
 have hge:w.heap.size≤w.heap.size+1:=by omega
 clear b1 h
 go_enter Tryz.func16,Tryz.ntmps16
 go_wp2_with fail
 generalize ((w.alloc (.cells #[F x.TA x.t.length x.tc,F x.OA x.o.length x.oc,O U x.got,O U x.sold,O U x.missed,sK l.D,sK l.P,O U l.n] 42)).alloc (.cells #[F none 0 0,F none 0 0,O U 0,O U 0,O U 0,sK ⟨#[]⟩,sK ⟨#[]⟩,O U 0] 42))=W at L1 L2 b2 hW ⊢
 refine (dK x l W hW hs (hLW.then b2).tab).mono ?_
 rintro e W3 ⟨rfl,hb3⟩
 have K1:=L1.below hb3 L1.lt
 have K2:=L2.below hb3 L2.lt
 have b5:=b2.trans (hb3.mono b2.size)
 have hW3:=hW.then hb3
 clear hb3 L1 L2 b2 hW
 rw [hok]
 go_wp2_with fail
 refine (ed ⟨line,⟨#[]⟩⟩ W3 (Nat.le_trans hsl (by decide)) (show (0:Nat)≤1000000000 by omega)).mono ?_
 rintro e W4 ⟨rfl,hb4⟩
 have N1:=K1.below hb4 K1.lt
 have N2:=K2.below hb4 K2.lt
 have b6:=b5.trans (hb4.mono b5.size)
 have hW4:=hW3.then hb4
 clear hb4 K1 K2 b5 hW3
 rw [hrk]
 obtain ⟨c0,c1,c2,c3,c4,c5,c6,c7⟩:=cells8 N1
 go_wp2_with fail
 refine (ey x l w.heap.size W4 N1 hW4 tl ol).mono ?_
 clear c0 c1 c2 c3 c4 c5 c6 c7
 rintro e W9 ⟨v,rfl,⟨TA,tc,OA,oc,rfl,hT0,hO0⟩,hb9⟩
 have Q2:=N2.below hb9 N2.lt
 have b9:=b6.trans (hb9.mono b6.size)
 have hT3:=af hT0 b6.size
 have hO3:=af hO0 b6.size
 obtain ⟨z0,z1,z2,z3,z4,z5,z6,z7⟩:=cells8 Q2
 obtain ⟨f0,f1,f2,f3,f4,f5,f6,f7⟩:=frz8 Q2
 obtain ⟨hT4,hO4⟩:=dF (F TA x.c.t.length tc) (F OA x.c.o.length oc) (O U x.c.got) (O U x.c.sold) (O U x.c.missed) (sK l.D) (sK l.P) (O U l.n) Q2 hT3 hO3
 have bz:=Lib.hid (dM (g:=w.heap.size+1) (b9) hge (F TA x.c.t.length tc) (F OA x.c.o.length oc) (O U x.c.got) (O U x.c.sold) (O U x.c.missed) (sK l.D) (sK l.P) (O U l.n))
 have HT4:=Lib.hid hT4
 have HO4:=Lib.hid hO4
 clear N1 N2 Q2 b6 b9 hb9 hT0 hO0 hT3 hO3 hW4 hT4 hO4
 go_wp2_with fail
 refine bodyPost_ret (v:=.tuple #[.agg #[F TA x.c.t.length tc,F OA x.c.o.length oc,O U x.c.got,O U x.c.sold,O U x.c.missed,sK l.D,sK l.P,O U l.n],sK ⟨#[102,117,108,108]⟩]) (by simp [results,Tryz.results16,go_sem, *]) rfl (bL.mk (by unfold gU; rw [if_pos hok,if_pos hrk,if_pos HN.out]) (by unfold eV; rw [if_pos hok,if_pos hrk,if_pos HN.out]) (by unfold gV; rw [if_pos hok,if_pos hrk,if_pos HN.out]) ⟨TA,tc,OA,oc,rfl,HT4.out,HO4.out⟩ bz.out)
set_option maxRecDepth 100000 in
set_option maxHeartbeats 8000000 in
theorem qb (x:aL) (l:Lg) (line:ByteArray) (w:World) (h:aO w w.heap.size x) (tl:x.t.length≤1048576) (ol:x.o.length≤1048576) (hs:l.D.size+l.P.size≤2000000) (hsl:line.size≤1048576) (hLW:LW w) (hok:dS x l=true) (hrk:eT.ok ⟨line,⟨#[]⟩⟩=true) (hn : ¬ l.n=60) :
  Calls Tryz.prog 16 #[aG x l,sK line] w (bL w x l line):=by
 have hne:(l.n == 60)=false:=beq_false_of_ne hn
 have G:=jx hok
 have hl160:line.size≤1000:=by
  have h1:=(de.1 hrk).2.1
  have h2:line.size≤160:=h1
  omega
 have HET:gU x l line=kx x line:=by unfold gU; rw [if_pos hok,if_pos hrk,if_neg hn]
 have HEO:eV x l line=oQ x line:=by unfold eV; rw [if_pos hok,if_pos hrk,if_neg hn]
 have HEL:gV x l line=fX l ⟨line,kx x line⟩:=by unfold gV; rw [if_pos hok,if_pos hrk,if_neg hn]
 obtain ⟨R,hR⟩ : ∃ R,gS x line=R:=⟨_,rfl⟩
 have HRT:kx x line=qu R:=by rw [← hR]; exact sm x line
 have HRO:oQ x line=es x R:=by rw [← hR]; exact qv x line
 obtain ⟨rep,hrep⟩ : ∃ rep,kx x line=rep:=⟨_,rfl⟩
 have hrs:rep.size≤200:=by rw [← hrep,HRT]; exact p9 R
 obtain ⟨l2,hl2⟩ : ∃ l2,fX l ⟨line,rep⟩=l2:=⟨_,rfl⟩
 have cA:=fun W hW=>ma l ⟨line,rep⟩ W hs (Nat.le_trans hl160 (by decide)) (Nat.le_trans hrs (by decide)) hW
 rw [hrep] at HET HEL HRT
 rw [hl2] at cA HEL
 have ET:=Lib.hid HET
 rw [HRO] at HEO
 have EO0:=Lib.hid HEO
 have EL:=Lib.hid HEL
 have HC:=Lib.hid hR
 clear hn HET HEO HEL HRO hrep hl2 hR
 have L1:=(ai.new w 42 #[F x.TA x.t.length x.tc,F x.OA x.o.length x.oc,O U x.got,O U x.sold,O U x.missed,sK l.D,sK l.P,O U l.n]).alloc (.cells #[F none 0 0,F none 0 0,O U 0,O U 0,O U 0,sK ⟨#[]⟩,sK ⟨#[]⟩,O U 0] 42)
 have L2:=ai.new1 w (.cells #[F x.TA x.t.length x.tc,F x.OA x.o.length x.oc,O U x.got,O U x.sold,O U x.missed,sK l.D,sK l.P,O U l.n] 42) 42 #[F none 0 0,F none 0 0,O U 0,O U 0,O U 0,sK ⟨#[]⟩,sK ⟨#[]⟩,O U 0]
 have b1:=(Below.refl w.heap.size w).alloc (Nat.le_refl _) (.cells #[F x.TA x.t.length x.tc,F x.OA x.o.length x.oc,O U x.got,O U x.sold,O U x.missed,sK l.D,sK l.P,O U l.n] 42)
 have b2:=b1.alloc b1.size (.cells #[F none 0 0,F none 0 0,O U 0,O U 0,O U 0,sK ⟨#[]⟩,sK ⟨#[]⟩,O U 0] 42)
 have hW:=h.up b2 (Nat.le_refl _)
 have hge:w.heap.size≤w.heap.size+1:=by omega
 clear b1 h
 go_enter Tryz.func16,Tryz.ntmps16
 go_wp2_with fail
 generalize ((w.alloc (.cells #[F x.TA x.t.length x.tc,F x.OA x.o.length x.oc,O U x.got,O U x.sold,O U x.missed,sK l.D,sK l.P,O U l.n] 42)).alloc (.cells #[F none 0 0,F none 0 0,O U 0,O U 0,O U 0,sK ⟨#[]⟩,sK ⟨#[]⟩,O U 0] 42))=W at L1 L2 b2 hW ⊢
 refine (dK x l W hW hs (hLW.then b2).tab).mono ?_
 rintro e W3 ⟨rfl,hb3⟩
 have K1:=L1.below hb3 L1.lt
 have K2:=L2.below hb3 L2.lt
 have b5:=b2.trans (hb3.mono b2.size)
 have hW3:=hW.then hb3
 clear hb3 L1 L2 b2 hW
 rw [hok]
 go_wp2_with fail
 refine (ed ⟨line,⟨#[]⟩⟩ W3 (Nat.le_trans hsl (by decide)) (show (0:Nat)≤1000000000 by omega)).mono ?_
 rintro e W4 ⟨rfl,hb4⟩
 have N1:=K1.below hb4 K1.lt
 have N2:=K2.below hb4 K2.lt
 have b6:=b5.trans (hb4.mono b5.size)
 have hW4:=hW3.then hb4
 clear hb4 K1 K2 b5 hW3
 rw [hrk]
 obtain ⟨c0,c1,c2,c3,c4,c5,c6,c7⟩:=cells8 N1
 go_wp2_with fail
 refine (ey x l w.heap.size W4 N1 hW4 tl ol).mono ?_
 rintro e W5 ⟨v,rfl,⟨TA,tc,OA,oc,rfl,hT0,hO0⟩,hb5⟩
 clear c0 c1 c2 c3 c4 c5 c6 c7
 go_upto_region 8 with fail
 have hal:=(Below.refl W5.heap.size W5).alloc (Nat.le_refl _) (.cells #[F TA x.c.t.length tc,F OA x.c.o.length oc,O U x.c.got,O U x.c.sold,O U x.c.missed,sK l.D,sK l.P,O U l.n] 42)
 have hb6:=aq hb5 hal
 have J1:=N1.below hb6 N1.lt
 have J2:=N2.below hb6 N2.lt
 have J6:=ai.new W5 42 #[F TA x.c.t.length tc,F OA x.c.o.length oc,O U x.c.got,O U x.c.sold,O U x.c.missed,sK l.D,sK l.P,O U l.n]
 have b7:=b6.trans (hb6.mono b6.size)
 have hT1:=af (ac hT0 hal) b6.size
 have hO1:=af (ac hO0 hal) b6.size
 have hg26:w.heap.size+1 < W5.heap.size:=Nat.lt_of_lt_of_le N2.lt hb5.size
 clear hal hb6 hb5 hT0 hO0 N1 N2 b6 hW4
 generalize W5.alloc (.cells #[F TA x.c.t.length tc,F OA x.c.o.length oc,O U x.c.got,O U x.c.sold,O U x.c.missed,sK l.D,sK l.P,O U l.n] 42)=W6 at J1 J2 J6 b7 hT1 hO1 ⊢
 generalize W5.heap.size=g6 at J6 hg26 ⊢
 have hg6:w.heap.size≤g6:=by omega
 have hXc:(x.c.at TA tc OA oc).c=x.c:=rfl
 have hrun:=o7 (x.c.at TA tc OA oc) l line g6 w W6 J6 hg6 b7 hT1 hO1 (good_c hXc G) hl160 hLW
 rw [r2 hXc,HC.out] at hrun
 go_wp2_with fail
 refine hrun.mono ?_
 rintro e W7 hM
 clear hrun
 rcases hM with ⟨rfl,⟨s,rfl⟩,hb7⟩ | ⟨z,r,rfl,rfl,hCI,hb7,hs7,hk7⟩
 ·have K1:=J1.below hb7 J1.lt
  have K2:=J2.below hb7 J2.lt
  have K6:=J6.below hb7 J6.lt
  have b8:=b7.trans (hb7.mono b7.size)
  have hT8:=ac hT1 hb7
  have hO8:=ac hO1 hb7
  clear J1 J2 J6 b7 hT1 hO1 hb7
  have HEO0:=EO0.out
  change eV x l line=x.c at HEO0
  change rep=⟨#[63]⟩ at HRT
  subst HRT
  clear EO0
  obtain ⟨y,hy⟩ : ∃ y,x.c=y:=⟨_,rfl⟩
  rw [hy] at K6 hT8 hO8 HEO0
  have EO:=Lib.hid HEO0
  clear HEO0
  obtain ⟨TB,hTB0⟩ : ∃ TB,TA=TB:=⟨_,rfl⟩
  obtain ⟨tb,htb0⟩ : ∃ tb,tc=tb:=⟨_,rfl⟩
  obtain ⟨OB,hOB0⟩ : ∃ OB,OA=OB:=⟨_,rfl⟩
  obtain ⟨ob,hob0⟩ : ∃ ob,oc=ob:=⟨_,rfl⟩
  rw [hTB0,htb0,hOB0,hob0] at K6
  rw [hTB0,htb0] at hT8
  rw [hOB0,hob0] at hO8
  clear hy hTB0 htb0 hOB0 hob0 hXc
  obtain ⟨cod,hcod⟩ : ∃ cod,dL l ⟨line,⟨#[63]⟩⟩=cod:=⟨_,rfl⟩
  rw [hcod] at cA
  clear hcod
  have htW:=(hLW.then b8).tab
  obtain ⟨c0,c1,c2,c3,c4,c5,c6,c7⟩:=cells8 K1
  go_wp2_with fail
  refine (cA W7 htW).mono ?_
  rintro e W9 ⟨rfl,hb9⟩
  have Q1:=K1.below hb9 K1.lt
  have Q2:=K2.below hb9 K2.lt
  have Q6:=K6.below hb9 K6.lt
  have b10:=b8.trans (hb9.mono b8.size)
  have hTA:=ac hT8 hb9
  have hOA:=ac hO8 hb9
  have gr9:W9.grownBy (((W9.setCell ⟨g6,5,none⟩ (sK l2.D)).setCell ⟨g6,6,none⟩ (sK l2.P)).setCell ⟨g6,7,none⟩ (O U l2.n)) (some g6):=ab (g:=g6) (i:=7) (u:=O U l2.n) (ab (g:=g6) (i:=6) (u:=sK l2.P) (ab (g:=g6) (i:=5) (u:=sK l2.D) (World.grownBy.refl W9 (some g6))))
  have hTB:=aj hTA Q6 eW gr9
  have hOB:=aj hOA Q6 eX gr9
  have R2:ai (((W9.setCell ⟨g6,5,none⟩ (sK l2.D)).setCell ⟨g6,6,none⟩ (sK l2.P)).setCell ⟨g6,7,none⟩ (O U l2.n)) (w.heap.size+1) 42 [F none 0 0,F none 0 0,O U 0,O U 0,O U 0,sK ⟨#[]⟩,sK ⟨#[]⟩,O U 0]:=(((Q2).other (p:=⟨g6,5,none⟩) (by simp only; omega) (sK l2.D)).other (p:=⟨g6,6,none⟩) (by simp only; omega) (sK l2.P)).other (p:=⟨g6,7,none⟩) (by simp only; omega) (O U l2.n)
  have R6:ai (((W9.setCell ⟨g6,5,none⟩ (sK l2.D)).setCell ⟨g6,6,none⟩ (sK l2.P)).setCell ⟨g6,7,none⟩ (O U l2.n)) g6 42 [F TB y.t.length tb,F OB y.o.length ob,O U y.got,O U y.sold,O U y.missed,sK l2.D,sK l2.P,O U l2.n]:=(((Q6).set 5 (sK l2.D)).set 6 (sK l2.P)).set 7 (O U l2.n)
  have b11:=(((b10).setCell (p:=⟨g6,5,none⟩) hg6 (sK l2.D)).setCell (p:=⟨g6,6,none⟩) hg6 (sK l2.P)).setCell (p:=⟨g6,7,none⟩) hg6 (O U l2.n)
  obtain ⟨z0,z1,z2,z3,z4,z5,z6,z7⟩:=cells8 Q6
  obtain ⟨f0,f1,f2,f3,f4,f5,f6,f7⟩:=frz8 Q6
  clear K1 K2 Q1 Q2 hb9 b8 b10 hTA hOA hT8 hO8 gr9 c0 c1 c2 c3 c4 c5 c6 c7
  go_upto_region 14 with fail
  clear K6 Q6 z0 z1 z2 z3 z4 z5 z6 z7 f0 f1 f2 f3 f4 f5 f6 f7
  generalize (((W9.setCell ⟨g6,5,none⟩ (sK l2.D)).setCell ⟨g6,6,none⟩ (sK l2.P)).setCell ⟨g6,7,none⟩ (O U l2.n))=WB at R2 R6 b11 hTB hOB ⊢
  obtain ⟨p0,p1,p2,p3,p4,p5,p6,p7⟩:=cells8 R6
  obtain ⟨z0,z1,z2,z3,z4,z5,z6,z7⟩:=cells8 R2
  obtain ⟨f0,f1,f2,f3,f4,f5,f6,f7⟩:=frz8 R2
  obtain ⟨hTC,hOC⟩:=dF (F TB y.t.length tb) (F OB y.o.length ob) (O U y.got) (O U y.sold) (O U y.missed) (sK l2.D) (sK l2.P) (O U l2.n) R2 hTB hOB
  have bz:=Lib.hid (dM (g:=w.heap.size+1) (b11) hge (F TB y.t.length tb) (F OB y.o.length ob) (O U y.got) (O U y.sold) (O U y.missed) (sK l2.D) (sK l2.P) (O U l2.n))
  have HTC:=Lib.hid hTC
  have HOC:=Lib.hid hOC
  clear R2 R6 b11 hTB hOB hTC hOC
  go_wp2_with fail
  refine bodyPost_ret (v:=.tuple #[.agg #[F TB y.t.length tb,F OB y.o.length ob,O U y.got,O U y.sold,O U y.missed,sK l2.D,sK l2.P,O U l2.n],sK ⟨#[63]⟩]) (by simp [results,Tryz.results16,go_sem, *]) rfl (bL.mk ET.out EO.out EL.out ⟨TB,tb,OB,ob,rfl,HTC.out,HOC.out⟩ bz.out)
 ·obtain ⟨TB,tb,OB,ob,K6,hT8,hO8⟩:=hCI
  have K1:=mj hk7 J1 (by omega)
  have K2:=mj hk7 J2 (by omega)
  have b8:=b7.trans hb7
  clear J1 J2 J6 b7 hT1 hO1 hb7 hk7
  have HEO0:=EO0.out
  change eV x l line=z at HEO0
  change rep=(if 200 < r.size then ⟨#[108,111,110,103]⟩ else r) at HRT
  clear EO0
  obtain ⟨y,hy⟩ : ∃ y,z=y:=⟨_,rfl⟩
  rw [hy] at K6 hT8 hO8 HEO0
  have EO:=Lib.hid HEO0
  clear hy hXc HEO0
  by_cases hlong:200 < r.size
  ·have hlg:(200:Int) < (r.size:Int):=by omega
   rw [if_pos hlong] at HRT
   subst HRT
   obtain ⟨cod,hcod⟩ : ∃ cod,dL l ⟨line,⟨#[108,111,110,103]⟩⟩=cod:=⟨_,rfl⟩
   rw [hcod] at cA
   clear hcod
   have htW:=(hLW.then b8).tab
   obtain ⟨c0,c1,c2,c3,c4,c5,c6,c7⟩:=cells8 K1
   go_wp2_with fail
   refine (cA W7 htW).mono ?_
   rintro e W9 ⟨rfl,hb9⟩
   have Q1:=K1.below hb9 K1.lt
   have Q2:=K2.below hb9 K2.lt
   have Q6:=K6.below hb9 K6.lt
   have b10:=b8.trans (hb9.mono b8.size)
   have hTA:=ac hT8 hb9
   have hOA:=ac hO8 hb9
   have gr9:W9.grownBy (((W9.setCell ⟨g6,5,none⟩ (sK l2.D)).setCell ⟨g6,6,none⟩ (sK l2.P)).setCell ⟨g6,7,none⟩ (O U l2.n)) (some g6):=ab (g:=g6) (i:=7) (u:=O U l2.n) (ab (g:=g6) (i:=6) (u:=sK l2.P) (ab (g:=g6) (i:=5) (u:=sK l2.D) (World.grownBy.refl W9 (some g6))))
   have hTB:=aj hTA Q6 eW gr9
   have hOB:=aj hOA Q6 eX gr9
   have R2:ai (((W9.setCell ⟨g6,5,none⟩ (sK l2.D)).setCell ⟨g6,6,none⟩ (sK l2.P)).setCell ⟨g6,7,none⟩ (O U l2.n)) (w.heap.size+1) 42 [F none 0 0,F none 0 0,O U 0,O U 0,O U 0,sK ⟨#[]⟩,sK ⟨#[]⟩,O U 0]:=(((Q2).other (p:=⟨g6,5,none⟩) (by simp only; omega) (sK l2.D)).other (p:=⟨g6,6,none⟩) (by simp only; omega) (sK l2.P)).other (p:=⟨g6,7,none⟩) (by simp only; omega) (O U l2.n)
   have R6:ai (((W9.setCell ⟨g6,5,none⟩ (sK l2.D)).setCell ⟨g6,6,none⟩ (sK l2.P)).setCell ⟨g6,7,none⟩ (O U l2.n)) g6 42 [F TB y.t.length tb,F OB y.o.length ob,O U y.got,O U y.sold,O U y.missed,sK l2.D,sK l2.P,O U l2.n]:=(((Q6).set 5 (sK l2.D)).set 6 (sK l2.P)).set 7 (O U l2.n)
   have b11:=(((b10).setCell (p:=⟨g6,5,none⟩) hg6 (sK l2.D)).setCell (p:=⟨g6,6,none⟩) hg6 (sK l2.P)).setCell (p:=⟨g6,7,none⟩) hg6 (O U l2.n)
   obtain ⟨z0,z1,z2,z3,z4,z5,z6,z7⟩:=cells8 Q6
   obtain ⟨f0,f1,f2,f3,f4,f5,f6,f7⟩:=frz8 Q6
   clear K1 K2 Q1 Q2 hb9 b8 b10 hTA hOA hT8 hO8 gr9 c0 c1 c2 c3 c4 c5 c6 c7
   go_upto_region 14 with fail
   clear K6 Q6 z0 z1 z2 z3 z4 z5 z6 z7 f0 f1 f2 f3 f4 f5 f6 f7
   generalize (((W9.setCell ⟨g6,5,none⟩ (sK l2.D)).setCell ⟨g6,6,none⟩ (sK l2.P)).setCell ⟨g6,7,none⟩ (O U l2.n))=WB at R2 R6 b11 hTB hOB ⊢
   obtain ⟨p0,p1,p2,p3,p4,p5,p6,p7⟩:=cells8 R6
   obtain ⟨z0,z1,z2,z3,z4,z5,z6,z7⟩:=cells8 R2
   obtain ⟨f0,f1,f2,f3,f4,f5,f6,f7⟩:=frz8 R2
   obtain ⟨hTC,hOC⟩:=dF (F TB y.t.length tb) (F OB y.o.length ob) (O U y.got) (O U y.sold) (O U y.missed) (sK l2.D) (sK l2.P) (O U l2.n) R2 hTB hOB
   have bz:=Lib.hid (dM (g:=w.heap.size+1) (b11) hge (F TB y.t.length tb) (F OB y.o.length ob) (O U y.got) (O U y.sold) (O U y.missed) (sK l2.D) (sK l2.P) (O U l2.n))
   have HTC:=Lib.hid hTC
   have HOC:=Lib.hid hOC
   clear R2 R6 b11 hTB hOB hTC hOC
   go_wp2_with fail
   refine bodyPost_ret (v:=.tuple #[.agg #[F TB y.t.length tb,F OB y.o.length ob,O U y.got,O U y.sold,O U y.missed,sK l2.D,sK l2.P,O U l2.n],sK ⟨#[108,111,110,103]⟩]) (by simp [results,Tryz.results16,go_sem, *]) rfl (bL.mk ET.out EO.out EL.out ⟨TB,tb,OB,ob,rfl,HTC.out,HOC.out⟩ bz.out)
  ·have hlg : ¬ (200:Int) < (r.size:Int):=by omega
   rw [if_neg hlong] at HRT
   subst HRT
   obtain ⟨cod,hcod⟩ : ∃ cod,dL l ⟨line,rep⟩=cod:=⟨_,rfl⟩
   rw [hcod] at cA
   clear hcod
   have htW:=(hLW.then b8).tab
   obtain ⟨c0,c1,c2,c3,c4,c5,c6,c7⟩:=cells8 K1
   go_wp2_with fail
   refine (cA W7 htW).mono ?_
   rintro e W9 ⟨rfl,hb9⟩
   have Q1:=K1.below hb9 K1.lt
   have Q2:=K2.below hb9 K2.lt
   have Q6:=K6.below hb9 K6.lt
   have b10:=b8.trans (hb9.mono b8.size)
   have hTA:=ac hT8 hb9
   have hOA:=ac hO8 hb9
   have gr9:W9.grownBy (((W9.setCell ⟨g6,5,none⟩ (sK l2.D)).setCell ⟨g6,6,none⟩ (sK l2.P)).setCell ⟨g6,7,none⟩ (O U l2.n)) (some g6):=ab (g:=g6) (i:=7) (u:=O U l2.n) (ab (g:=g6) (i:=6) (u:=sK l2.P) (ab (g:=g6) (i:=5) (u:=sK l2.D) (World.grownBy.refl W9 (some g6))))
   have hTB:=aj hTA Q6 eW gr9
   have hOB:=aj hOA Q6 eX gr9
   have R2:ai (((W9.setCell ⟨g6,5,none⟩ (sK l2.D)).setCell ⟨g6,6,none⟩ (sK l2.P)).setCell ⟨g6,7,none⟩ (O U l2.n)) (w.heap.size+1) 42 [F none 0 0,F none 0 0,O U 0,O U 0,O U 0,sK ⟨#[]⟩,sK ⟨#[]⟩,O U 0]:=(((Q2).other (p:=⟨g6,5,none⟩) (by simp only; omega) (sK l2.D)).other (p:=⟨g6,6,none⟩) (by simp only; omega) (sK l2.P)).other (p:=⟨g6,7,none⟩) (by simp only; omega) (O U l2.n)
   have R6:ai (((W9.setCell ⟨g6,5,none⟩ (sK l2.D)).setCell ⟨g6,6,none⟩ (sK l2.P)).setCell ⟨g6,7,none⟩ (O U l2.n)) g6 42 [F TB y.t.length tb,F OB y.o.length ob,O U y.got,O U y.sold,O U y.missed,sK l2.D,sK l2.P,O U l2.n]:=(((Q6).set 5 (sK l2.D)).set 6 (sK l2.P)).set 7 (O U l2.n)
   have b11:=(((b10).setCell (p:=⟨g6,5,none⟩) hg6 (sK l2.D)).setCell (p:=⟨g6,6,none⟩) hg6 (sK l2.P)).setCell (p:=⟨g6,7,none⟩) hg6 (O U l2.n)
   obtain ⟨z0,z1,z2,z3,z4,z5,z6,z7⟩:=cells8 Q6
   obtain ⟨f0,f1,f2,f3,f4,f5,f6,f7⟩:=frz8 Q6
   clear K1 K2 Q1 Q2 hb9 b8 b10 hTA hOA hT8 hO8 gr9 c0 c1 c2 c3 c4 c5 c6 c7
   go_upto_region 14 with fail
   clear K6 Q6 z0 z1 z2 z3 z4 z5 z6 z7 f0 f1 f2 f3 f4 f5 f6 f7
   generalize (((W9.setCell ⟨g6,5,none⟩ (sK l2.D)).setCell ⟨g6,6,none⟩ (sK l2.P)).setCell ⟨g6,7,none⟩ (O U l2.n))=WB at R2 R6 b11 hTB hOB ⊢
   obtain ⟨p0,p1,p2,p3,p4,p5,p6,p7⟩:=cells8 R6
   obtain ⟨z0,z1,z2,z3,z4,z5,z6,z7⟩:=cells8 R2
   obtain ⟨f0,f1,f2,f3,f4,f5,f6,f7⟩:=frz8 R2
   obtain ⟨hTC,hOC⟩:=dF (F TB y.t.length tb) (F OB y.o.length ob) (O U y.got) (O U y.sold) (O U y.missed) (sK l2.D) (sK l2.P) (O U l2.n) R2 hTB hOB
   have bz:=Lib.hid (dM (g:=w.heap.size+1) (b11) hge (F TB y.t.length tb) (F OB y.o.length ob) (O U y.got) (O U y.sold) (O U y.missed) (sK l2.D) (sK l2.P) (O U l2.n))
   have HTC:=Lib.hid hTC
   have HOC:=Lib.hid hOC
   clear R2 R6 b11 hTB hOB hTC hOC
   go_wp2_with fail
   refine bodyPost_ret (v:=.tuple #[.agg #[F TB y.t.length tb,F OB y.o.length ob,O U y.got,O U y.sold,O U y.missed,sK l2.D,sK l2.P,O U l2.n],sK rep]) (by simp [results,Tryz.results16,go_sem, *]) rfl (bL.mk ET.out EO.out EL.out ⟨TB,tb,OB,ob,rfl,HTC.out,HOC.out⟩ bz.out)
theorem qc (x:aL) (l:Lg) (line:ByteArray) (w:World) (h:aO w w.heap.size x) (tl:x.t.length≤1048576) (ol:x.o.length≤1048576) (hs:l.D.size+l.P.size≤2000000) (hsl:line.size≤1048576) (hLW:LW w) :
  Calls Tryz.prog 16 #[aG x l,sK line] w (bL w x l line):=by
 cases hok:dS x l
 ·exact rq x l line w h tl ol hs hsl hLW hok
 ·cases hrk:eT.ok ⟨line,⟨#[]⟩⟩
  ·exact qa x l line w h tl ol hs hsl hLW hok hrk
  ·by_cases hn:l.n=60
   ·exact o8 x l line w h tl ol hs hsl hLW hok hrk hn
   ·exact qb x l line w h tl ol hs hsl hLW hok hrk hn
set_option maxHeartbeats 1000000 in
theorem o9 (TA OA:Option Addr) (tc oc n m B:Nat) (got sold missed k0:Int) (cs ds:List Value) (w:World) (hk : -1000≤k0) (hk' : k0≤1000) (hn:n≤1048576) (hm:m≤1048576) (hB:B≤w.heap.size)
  (hT:bM w B 104 2 TA n cs) (hO:bM w B 147 3 OA m ds) :
  Calls Tryz.prog 56 #[.agg #[F TA n tc,F OA m oc,O U got,O U sold,O U missed],O U k0] w fun e w'=>e=.returned (O U (k0+2 * n+3 * m)) ∧
   bM w' B 104 2 TA n (bi (ramp k0 (n * 2)))∧bM w' B 147 3 OA m (bi (ramp (k0+2 * n) (m * 3)))∧Below B w w'∧∀ g t' cs',t' ≠ 104→t' ≠ 147→ai w g t' cs'→ai w' g t' cs':=by
 have L0:=ai.new w 40 #[F TA n tc,F OA m oc,O U got,O U sold,O U missed]
 have b0:=(Below.refl B w).alloc hB (.cells #[F TA n tc,F OA m oc,O U got,O U sold,O U missed] 40)
 have hal:=(Below.refl w.heap.size w).alloc (Nat.le_refl _) (.cells #[F TA n tc,F OA m oc,O U got,O U sold,O U missed] 40)
 have hT1:=hT.then hal
 have hO1:=hO.then hal
 clear hT hO hal
 have hK:∀ g t' cs',t' ≠ 104→t' ≠ 147→ai w g t' cs'→ai (w.alloc (.cells #[F TA n tc,F OA m oc,O U got,O U sold,O U missed] 40)) g t' cs':=fun g t' cs' _ _ h=>h.alloc _
 go_enter Tryz.func56,Tryz.ntmps56
 go_wp2_with fail
 generalize w.alloc (.cells #[F TA n tc,F OA m oc,O U got,O U sold,O U missed] 40)=W at b0 L0 hT1 hO1 hK ⊢
 refine (fj TA tc n B k0 cs W (by omega) (by omega) (by omega) hT1).mono ?_
 rintro e w1 ⟨rfl,o1,gr1⟩
 have m1:=b0.grown gr1 (Nat.le_trans hB (by have:=b0.size; omega)) (fun g hg=>hT1.at_ge g hg)
 have hO2:=hO1.two hT1 rL gr1
 have L1:=L0.kept gr1 (hT1.apartB L0 (by decide))
 have hK1:∀ g t' cs',t' ≠ 104→t' ≠ 147→ai w g t' cs'→ai w1 g t' cs':=fun g t' cs' n1 n2 h=>(hK g t' cs' n1 n2 h).kept gr1 (hT1.apartB (hK g t' cs' n1 n2 h) n1)
 have c1:=L1.cell 1
 simp only [List.getElem?_cons_zero,List.getElem?_cons_succ] at c1
 go_wp2_with fail
 refine (eu OA oc m B _ ds w1 (by omega) (by omega) (by omega) hO2).mono ?_
 rintro e w2 ⟨rfl,o2,gr2⟩
 have m2:=m1.grown gr2 (Nat.le_trans hB m1.size) (fun g hg=>hO2.at_ge g hg)
 have o3:=o1.two hO2 ne_to gr2
 have hK2:∀ g t' cs',t' ≠ 104→t' ≠ 147→ai w g t' cs'→ai w2 g t' cs':=fun g t' cs' n1 n2 h=>(hK1 g t' cs' n1 n2 h).kept gr2 (hO2.apartB (hK1 g t' cs' n1 n2 h) n2)
 have HK:=Lib.hid hK2
 clear hK hK1 hK2
 go_wp2
 go_ret
 exact ⟨rfl,o3,o2,m2,HK.out⟩
set_option maxHeartbeats 1000000 in
theorem pa (TA OA:Option Addr) (tc oc n m:Nat) (got sold missed k0:Int) (w:World) (hk:0≤k0) (hk' : k0≤1000) (hn:n≤1048576) (hm:m≤1048576)
  (hT:bv w w.heap.size 2 TA n (bi (ramp k0 (n * 2)))) (hO:bv w w.heap.size 3 OA m (bi (ramp (k0+2 * n) (m * 3)))) :
  Calls Tryz.prog 57 #[.agg #[F TA n tc,F OA m oc,O U got,O U sold,O U missed],O U k0] w fun e w'=>e=.returned (O U (k0+2 * n+3 * m))∧Below w.heap.size w w':=by
 have L0:=ai.new w 40 #[F TA n tc,F OA m oc,O U got,O U sold,O U missed]
 have hal:=(Below.refl w.heap.size w).alloc (Nat.le_refl _) (.cells #[F TA n tc,F OA m oc,O U got,O U sold,O U missed] 40)
 have hT1:=bv.up hT hal (Nat.le_refl _)
 have hO1:=bv.up hO hal (Nat.le_refl _)
 clear hT hO
 go_enter Tryz.func57,Tryz.ntmps57
 go_wp2_with fail
 generalize w.alloc (.cells #[F TA n tc,F OA m oc,O U got,O U sold,O U missed] 40)=W at hal L0 hT1 hO1 ⊢
 refine (jh TA tc n k0 W (by omega) (by omega) (by omega) hT1).mono ?_
 rintro e w1 ⟨rfl,hb1⟩
 have L1:=L0.below hb1 L0.lt
 have c1:=L1.cell 1
 simp only [List.getElem?_cons_zero,List.getElem?_cons_succ] at c1
 have hO2:=bv.up hO1 hb1 (Nat.le_refl _)
 go_wp2_with fail
 refine (ix OA oc m (k0+2 * n) w1 (by omega) (by omega) (by omega) hO2).mono ?_
 rintro e w2 ⟨rfl,hb2⟩
 go_wp2
 go_ret
 exact ⟨rfl,aq hal (aq hb1 hb2)⟩
theorem sw:42 ≠ 104:=by decide
theorem sx:42 ≠ 147:=by decide
set_option maxHeartbeats 1000000 in
theorem rr (TA OA:Option Addr) (tc oc B:Nat) (y:Oc) (l:Lg) (cs ds:List Value) (w:World) (hn:y.t.length≤1048576) (hm:y.o.length≤1048576) (hB:B≤w.heap.size)
  (hT:bM w B 104 2 TA y.t.length cs) (hO:bM w B 147 3 OA y.o.length ds) :
  Calls Tryz.prog 18 #[.agg #[F TA y.t.length tc,F OA y.o.length oc,O U y.got,O U y.sold,O U y.missed,sK l.D,sK l.P,O U l.n],O U 1] w fun e w'=>e=.returned (O U (1+2 * y.t.length+3 * y.o.length)) ∧
   bM w' B 104 2 TA y.t.length (bi (ramp 1 (y.t.length * 2)))∧bM w' B 147 3 OA y.o.length (bi (ramp (1+2 * y.t.length) (y.o.length * 3)))∧Below B w w'∧∀ g cs',ai w g 42 cs'→ai w' g 42 cs':=by
 have hal:=(Below.refl w.heap.size w).alloc (Nat.le_refl _) (.cells #[F TA y.t.length tc,F OA y.o.length oc,O U y.got,O U y.sold,O U y.missed,sK l.D,sK l.P,O U l.n] 42)
 have L:=ai.new w 42 #[F TA y.t.length tc,F OA y.o.length oc,O U y.got,O U y.sold,O U y.missed,sK l.D,sK l.P,O U l.n]
 have hK:∀ g cs',ai w g 42 cs'→ai (w.alloc (.cells #[F TA y.t.length tc,F OA y.o.length oc,O U y.got,O U y.sold,O U y.missed,sK l.D,sK l.P,O U l.n] 42)) g 42 cs':=fun g cs' h=>h.alloc _
 go_enter Tryz.func18,Tryz.ntmps18
 go_wp2_with fail
 generalize (w.alloc (.cells #[F TA y.t.length tc,F OA y.o.length oc,O U y.got,O U y.sold,O U y.missed,sK l.D,sK l.P,O U l.n] 42))=W at L hal hK ⊢
 refine (o9 TA OA tc oc y.t.length y.o.length B y.got y.sold y.missed 1 cs ds W (by omega) (by omega) hn hm (Nat.le_trans hB hal.size) (hT.then hal) (hO.then hal)).mono ?_
 rintro e w1 ⟨rfl,h1,h2,hb1,hk⟩
 have HK:=Lib.hid (fun g cs' (h:ai w g 42 cs')=>hk g _ cs' sw sx (hK g cs' h))
 clear hk hK
 go_wp2
 go_ret
 exact ⟨rfl,h1,h2,(hal.mono hB).trans hb1,HK.out⟩
set_option maxHeartbeats 1000000 in
theorem rt (TA OA:Option Addr) (tc oc:Nat) (y:Oc) (l:Lg) (w:World) (hn:y.t.length≤1048576) (hm:y.o.length≤1048576)
  (hT:bv w w.heap.size 2 TA y.t.length (bi (ramp 1 (y.t.length * 2)))) (hO:bv w w.heap.size 3 OA y.o.length (bi (ramp (1+2 * y.t.length) (y.o.length * 3)))) :
  Calls Tryz.prog 19 #[.agg #[F TA y.t.length tc,F OA y.o.length oc,O U y.got,O U y.sold,O U y.missed,sK l.D,sK l.P,O U l.n],O U 1] w fun e w'=>e=.returned (O U (1+2 * y.t.length+3 * y.o.length))∧Below w.heap.size w w':=by
 have hal:=(Below.refl w.heap.size w).alloc (Nat.le_refl _) (.cells #[F TA y.t.length tc,F OA y.o.length oc,O U y.got,O U y.sold,O U y.missed,sK l.D,sK l.P,O U l.n] 42)
 go_enter Tryz.func19,Tryz.ntmps19
 go_wp2_with fail
 generalize (w.alloc (.cells #[F TA y.t.length tc,F OA y.o.length oc,O U y.got,O U y.sold,O U y.missed,sK l.D,sK l.P,O U l.n] 42))=W at hal ⊢
 refine (pa TA OA tc oc y.t.length y.o.length y.got y.sold y.missed 1 W (by omega) (by omega) hn hm (bv.up hT hal (Nat.le_refl _)) (bv.up hO hal (Nat.le_refl _))).mono ?_
 rintro e w1 ⟨rfl,hb1⟩
 go_wp2
 go_ret
 exact ⟨rfl,aq hal hb1⟩
set_option maxHeartbeats 1000000 in
theorem ru (x:aL) (l:Lg) (p1 p2 lo hi:Nat) (w:World) (hn:x.t.length≤1048576) (hm:x.o.length≤1048576) (l1:lo≤p1) (l2:p1 < p2) (l3:p2 < hi) (l4:hi≤w.heap.size)
  (h1:ai w p1 104 (x.t.flatMap ao.enc)) (h2:ai w p2 147 (x.o.flatMap ae.enc)) :
  Calls Tryz.prog 18 #[.agg #[F (some ⟨p1,0,none⟩) x.t.length x.t.length,F (some ⟨p2,0,none⟩) x.o.length x.o.length,O U x.got,O U x.sold,O U x.missed,sK l.D,sK l.P,O U l.n],O U 1] w fun e w'=>(∃ k1:Int,e=.returned (O U k1)∧0≤k1)∧mK lo hi w w':=by
 have b0:mK lo hi w (w.alloc (.cells #[F (some ⟨p1,0,none⟩) x.t.length x.t.length,F (some ⟨p2,0,none⟩) x.o.length x.o.length,O U x.got,O U x.sold,O U x.missed,sK l.D,sK l.P,O U l.n] 42)):=⟨rfl,rfl,rfl,by simp,fun k hk _=>Below.heap_alloc w _ k hk⟩
 have j1:=h1.alloc (.cells #[F (some ⟨p1,0,none⟩) x.t.length x.t.length,F (some ⟨p2,0,none⟩) x.o.length x.o.length,O U x.got,O U x.sold,O U x.missed,sK l.D,sK l.P,O U l.n] 42)
 have j2:=h2.alloc (.cells #[F (some ⟨p1,0,none⟩) x.t.length x.t.length,F (some ⟨p2,0,none⟩) x.o.length x.o.length,O U x.got,O U x.sold,O U x.missed,sK l.D,sK l.P,O U l.n] 42)
 have hsz:w.heap.size≤(w.alloc (.cells #[F (some ⟨p1,0,none⟩) x.t.length x.t.length,F (some ⟨p2,0,none⟩) x.o.length x.o.length,O U x.got,O U x.sold,O U x.missed,sK l.D,sK l.P,O U l.n] 42)).heap.size:=b0.size
 go_enter Tryz.func18,Tryz.ntmps18
 go_wp2_with fail
 generalize w.alloc (.cells #[F (some ⟨p1,0,none⟩) x.t.length x.t.length,F (some ⟨p2,0,none⟩) x.o.length x.o.length,O U x.got,O U x.sold,O U x.missed,sK l.D,sK l.P,O U l.n] 42)=W at b0 j1 j2 hsz ⊢
 refine (lT x p1 p2 lo hi W hn hm l1 l2 l3 (by omega) j1 j2).mono ?_
 rintro e w1 ⟨⟨k1,rfl,hk1⟩,hm1⟩
 have HM:=Lib.hid (b0.trans hm1)
 clear b0 hm1
 go_wp2
 go_ret
 exact ⟨⟨k1,rfl,hk1⟩,HM.out⟩
theorem nI {y:Oc} {l:Lg} {TA OA TA' OA' : Option Addr} {tc oc tc' oc' : Nat} {w:World} (h:aO w w.heap.size (y.at TA tc OA oc)) (h' : aO w w.heap.size (y.at TA' tc' OA' oc')) :
  Calls Tryz.prog 17 #[.agg #[F TA y.t.length tc,F OA y.o.length oc,O U y.got,O U y.sold,O U y.missed,sK l.D,sK l.P,O U l.n],.agg #[F TA' y.t.length tc',F OA' y.o.length oc',O U y.got,O U y.sold,O U y.missed,sK l.D,sK l.P,O U l.n]] w fun e w'=>e=.returned (.bool true)∧Below w.heap.size w w' :=
 jq (y.at TA tc OA oc) (y.at TA' tc' OA' oc') l w h h' (decide_eq_true rfl) (decide_eq_true rfl) rfl rfl rfl
theorem r6 {x:aL} {l:Lg} {line:ByteArray} (hn:x.t.length≤1048576) (hm:x.o.length≤1048576):(eV x l line).t.length≤1048576∧(eV x l line).o.length≤1048576:=by
 unfold eV
 split
 ·rename_i hok
  split
  ·split
   ·exact ⟨hn,hm⟩
   ·rw [qv]
    have h1:=km (mY (x:=x) (by have e1:al x=true:=bg.2 (jx hok); exact e1) line)
    exact ⟨by have:=h1.1; omega,by have:=h1.2; omega⟩
  ·exact ⟨hn,hm⟩
 ·exact ⟨hn,hm⟩
set_option maxRecDepth 100000 in
set_option maxHeartbeats 8000000 in
theorem pb (x:aL) (l:Lg) (line:ByteArray) (w:World) (h:aO w w.heap.size x) (hd1:l.D.size≤9223372036854775807) (hd2:l.P.size≤9223372036854775807) (hlz:line.size≤9223372036854775807) (hLW:LW w) :
  Calls Tryz.prog 4 #[aG x l,sK line] w fun e w'=>e=.returned (.bool true)∧Below w.heap.size w w':=by
 have hl1:=h.ts.big
 have hl2:=h.os.big
 have b0:=(Below.refl w.heap.size w).alloc (Nat.le_refl _) (.cells #[F x.TA x.t.length x.tc,F x.OA x.o.length x.oc,O U x.got,O U x.sold,O U x.missed,sK l.D,sK l.P,O U l.n] 35)
 have L0:=ai.new w 35 #[F x.TA x.t.length x.tc,F x.OA x.o.length x.oc,O U x.got,O U x.sold,O U x.missed,sK l.D,sK l.P,O U l.n]
 by_cases hbl:line.size≤1048576
 ·have hbi : ¬ (1048576:Int) < (line.size:Int):=by omega
  obtain ⟨z,hz⟩ : ∃ z,z=dE (bY 1048576 (x.t.length+x.o.length)) l.need:=⟨_,rfl⟩
  have HZ:Hid (dE (bY 1048576 (x.t.length+x.o.length)) l.need=z):=hz.symm
  by_cases hbig:((x.t.length+x.o.length:Nat):Int)≤1048576∧(l.need:Int)≤1048576 - ((x.t.length+x.o.length:Nat):Int)
  ·obtain ⟨hb1',hb2'⟩:=hbig
   have hz0:0≤z:=by rw [hz]; unfold dE bY; rw [if_pos hb1',if_pos hb2']; omega
   have hn:x.t.length≤1048576:=by omega
   have hm:x.o.length≤1048576:=by omega
   have hs:l.D.size+l.P.size≤2000000:=by unfold Lg.need at hb2'; omega
   have hzn:decide (z < 0)=false:=decide_eq_false (by omega)
   clear hz hb2' hb1'
   have hxl:=r6 (x:=x) (l:=l) (line:=line) hn hm
   have cS:∀ g1 g2 W,aO W W.heap.size (x.copy g1 g2)→Calls Tryz.prog 14 #[aG (x.copy g1 g2) l,sK line] W (bL W x l line):=fun g1 g2 W hW=>pX (x.copy g1 g2) l line W hW hn hm hs hbl
   have cI:∀ g1 g2 W,aO W W.heap.size (x.copy g1 g2)→LW W→Calls Tryz.prog 16 #[aG (x.copy g1 g2) l,sK line] W (bL W x l line):=fun g1 g2 W hW hL=>qc (x.copy g1 g2) l line W hW hn hm hs hbl hL
   unfold bL at cS cI
   obtain ⟨y,hy⟩ : ∃ y,eV x l line=y:=⟨_,rfl⟩
   obtain ⟨l2,hl⟩ : ∃ l2,gV x l line=l2:=⟨_,rfl⟩
   obtain ⟨T,hT⟩ : ∃ T,gU x l line=T:=⟨_,rfl⟩
   rw [hy] at cS cI hxl
   rw [hl,hT] at cS cI
   clear hy hl hT
   obtain ⟨yt,yo⟩:=hxl
   have hTT:(T.toList == T.toList)=true:=by simp
   have hTN:(T.toList != T.toList)=false:=by simp
   go_enter Tryz.func4,Tryz.ntmps4
   go_wp2_with fail
   generalize w.alloc (.cells #[F x.TA x.t.length x.tc,F x.OA x.o.length x.oc,O U x.got,O U x.sold,O U x.missed,sK l.D,sK l.P,O U l.n] 35)=W at b0 L0 ⊢
   have hW:=h.up b0 (Nat.le_refl _)
   refine (jp x l _ _ hl1 hl2 hd1 hd2 (by omega) (by omega)).mono ?_
   rintro e w1 ⟨rfl,hb1⟩
   rw [HZ.out]
   have L1:=L0.below hb1 L0.lt
   have B1:=b0.trans (hb1.mono b0.size)
   have R1:=hW.then hb1
   have gl1:=L1.lt
   clear L0 b0 hb1 hW h
   obtain ⟨c0,c1,c2,c3,c4,c5,c6,c7⟩:=cells8 L1
   go_wp2_with fail
   refine (fo x l _ R1 hn hm).mono ?_
   rintro e w2 ⟨g21,g22,rfl,hg21,hg22,hl21,hl22,hb2⟩
   go_wp2_with fail
   refine (cS g21 g22 _ (fg hl21 hl22 hn hm)).mono ?_
   rintro e w3 ⟨v,rfl,⟨TA6,tc6,OA6,oc6,rfl,hT6,hO6⟩,hb3⟩
   clear c0 c1 c2 c3 c4 c5 c6 c7
   go_upto_region 8 with fail
   have hal:=(Below.refl w3.heap.size w3).alloc (Nat.le_refl _) (.cells #[F TA6 y.t.length tc6,F OA6 y.o.length oc6,O U y.got,O U y.sold,O U y.missed,sK l2.D,sK l2.P,O U l2.n] 42)
   have hx:=aq (aq hb2 hb3) hal
   have K6:=ai.new w3 42 #[F TA6 y.t.length tc6,F OA6 y.o.length oc6,O U y.got,O U y.sold,O U y.missed,sK l2.D,sK l2.P,O U l2.n]
   have R6:aO (w3.alloc (.cells #[F TA6 y.t.length tc6,F OA6 y.o.length oc6,O U y.got,O U y.sold,O U y.missed,sK l2.D,sK l2.P,O U l2.n] 42)) (w3.alloc (.cells #[F TA6 y.t.length tc6,F OA6 y.o.length oc6,O U y.got,O U y.sold,O U y.missed,sK l2.D,sK l2.P,O U l2.n] 42)).heap.size (y.at TA6 tc6 OA6 oc6):=aO.then ⟨aC hT6,aC hO6⟩ hal
   have g16:w1.heap.size≤w3.heap.size:=(aq hb2 hb3).size
   generalize w3.alloc (.cells #[F TA6 y.t.length tc6,F OA6 y.o.length oc6,O U y.got,O U y.sold,O U y.missed,sK l2.D,sK l2.P,O U l2.n] 42)=w4 at hx K6 R6 ⊢
   generalize w3.heap.size=g6 at K6 g16 ⊢
   have L4:=L1.below hx L1.lt
   have B4:=B1.trans (hx.mono B1.size)
   have R4:=R1.then hx
   clear hal hb2 hb3 hl21 hl22 hT6 hO6 L1 B1 R1 cS
   obtain ⟨c0,c1,c2,c3,c4,c5,c6,c7⟩:=cells8 L4
   go_wp2_with fail
   refine (fo x l _ R4 hn hm).mono ?_
   rintro e w5 ⟨p1,p2,rfl,hp1,hp2,hq1,hq2,hb5⟩
   clear c0 c1 c2 c3 c4 c5 c6 c7
   go_upto_region 9 with fail
   have hal:=(Below.refl w5.heap.size w5).alloc (Nat.le_refl _) (.cells #[F (some ⟨p1,0,none⟩) x.t.length x.t.length,F (some ⟨p2,0,none⟩) x.o.length x.o.length,O U x.got,O U x.sold,O U x.missed,sK l.D,sK l.P,O U l.n] 42)
   have q1:=hq1.alloc (.cells #[F (some ⟨p1,0,none⟩) x.t.length x.t.length,F (some ⟨p2,0,none⟩) x.o.length x.o.length,O U x.got,O U x.sold,O U x.missed,sK l.D,sK l.P,O U l.n] 42)
   have q2:=hq2.alloc (.cells #[F (some ⟨p1,0,none⟩) x.t.length x.t.length,F (some ⟨p2,0,none⟩) x.o.length x.o.length,O U x.got,O U x.sold,O U x.missed,sK l.D,sK l.P,O U l.n] 42)
   have L8:=ai.new w5 42 #[F (some ⟨p1,0,none⟩) x.t.length x.t.length,F (some ⟨p2,0,none⟩) x.o.length x.o.length,O U x.got,O U x.sold,O U x.missed,sK l.D,sK l.P,O U l.n]
   have hx5:=aq hb5 hal
   have gp2:=hq2.lt
   have g45:=hb5.size
   generalize w5.alloc (.cells #[F (some ⟨p1,0,none⟩) x.t.length x.t.length,F (some ⟨p2,0,none⟩) x.o.length x.o.length,O U x.got,O U x.sold,O U x.missed,sK l.D,sK l.P,O U l.n] 42)=w6 at q1 q2 L8 hx5 ⊢
   generalize w5.heap.size=g8 at L8 gp2 g45 ⊢
   have L6:=L4.below hx5 L4.lt
   have B6:=B4.trans (hx5.mono B4.size)
   have K66:=K6.below hx5 K6.lt
   have R66:=R6.below hx5
   have gk6:=K6.lt
   have g86:=L8.lt
   clear hal hq1 hq2 hb5 L4 B4 K6 R6
   obtain ⟨c0,c1,c2,c3,c4,c5,c6,c7⟩:=cells8 L8
   go_wp2_with fail
   refine (cI p1 p2 _ (fg q1 q2 hn hm) (hLW.then B6)).mono ?_
   rintro e w7 ⟨v,rfl,⟨TA9,tc9,OA9,oc9,rfl,hT9,hO9⟩,hb7⟩
   clear c0 c1 c2 c3 c4 c5 c6 c7
   go_upto_region 10 with fail
   have hal:=(Below.refl w7.heap.size w7).alloc (Nat.le_refl _) (.cells #[F TA9 y.t.length tc9,F OA9 y.o.length oc9,O U y.got,O U y.sold,O U y.missed,sK l2.D,sK l2.P,O U l2.n] 42)
   have hx7:=aq hb7 hal
   have K9:=ai.new w7 42 #[F TA9 y.t.length tc9,F OA9 y.o.length oc9,O U y.got,O U y.sold,O U y.missed,sK l2.D,sK l2.P,O U l2.n]
   have O9:=(bM.of hT9).then hal
   have U9:=(bM.of hO9).then hal
   have g67:=hb7.size
   generalize w7.alloc (.cells #[F TA9 y.t.length tc9,F OA9 y.o.length oc9,O U y.got,O U y.sold,O U y.missed,sK l2.D,sK l2.P,O U l2.n] 42)=w8 at hx7 K9 O9 U9 ⊢
   generalize w7.heap.size=g9 at K9 g67 ⊢
   have L7:=L6.below hx7 L6.lt
   have B7:=B6.trans (hx7.mono B6.size)
   have K67:=K66.below hx7 K66.lt
   have R67:=R66.below (hx7.mono hx5.size)
   have M8:=L8.below hx7 L8.lt
   have q17:=q1.below hx7 q1.lt
   have q27:=q2.below hx7 q2.lt
   have g78:=hx7.size
   clear hal hT9 hO9 hb7 L6 B6 K66 R66 L8 q1 q2
   obtain ⟨c0,c1,c2,c3,c4,c5,c6,c7⟩:=cells8 K9
   obtain ⟨d0,d1,d2,d3,d4,d5,d6,d7⟩:=cells8 K67
   go_wp2_with fail
   refine (nI (oH O9 U9) (R67.mono (by omega))).mono ?_
   rintro e wA ⟨rfl,hbA⟩
   clear c0 c1 c2 c3 c4 c5 c6 c7 d0 d1 d2 d3 d4 d5 d6 d7
   have BA:=B7.trans (hbA.mono B7.size)
   have H4:=aq (aq hx5 hx7) hbA
   have LA:=L7.below hbA L7.lt
   have KA6:=K67.below hbA K67.lt
   have RA6:=R67.below (hbA.mono (by omega))
   have MA8:=M8.below hbA M8.lt
   have qA1:=q17.below hbA q17.lt
   have qA2:=q27.below hbA q27.lt
   have KA9:=K9.below hbA K9.lt
   have OA9':=O9.then hbA
   have UA9':=U9.then hbA
   have RA:=R4.then H4
   have g8A:=hbA.size
   have hx45:=hx5.size
   clear L7 K67 R67 M8 q17 q27 K9 O9 U9 B7 hbA hx7 hx5
   go_wp2_with fail
   refine am (fun _=>(fun W9=>Below wA.heap.size wA W9)) (fun _ w1 w2=>Below w1.heap.size w1 w2) (by kernel_rfl) (by kernel_rfl) (by kernel_rfl) (Below.refl _ _).drew ?_
   simp only [aw,Act.put,List.setIfInBounds_toArray,List.set_cons_zero,List.set_cons_succ,Nat.zero_add,Nat.reduceAdd]
   apply aa
   case h1 =>
    intro vs L9 w9 hG9 hC9 hB K9 hK9
    have q0:w9.cell? ⟨g8,0,none⟩=some (F (some ⟨p1,0,none⟩) x.t.length x.t.length):=(MA8.below hC9 MA8.lt).cell 0
    have q1:w9.cell? ⟨g8,1,none⟩=some (F (some ⟨p2,0,none⟩) x.o.length x.o.length):=(MA8.below hC9 MA8.lt).cell 1
    have q2:w9.cell? ⟨g8,2,none⟩=some (O U x.got):=(MA8.below hC9 MA8.lt).cell 2
    have q3:w9.cell? ⟨g8,3,none⟩=some (O U x.sold):=(MA8.below hC9 MA8.lt).cell 3
    have q4:w9.cell? ⟨g8,4,none⟩=some (O U x.missed):=(MA8.below hC9 MA8.lt).cell 4
    have q5:w9.cell? ⟨g8,5,none⟩=some (sK l.D):=(MA8.below hC9 MA8.lt).cell 5
    have q6:w9.cell? ⟨g8,6,none⟩=some (sK l.P):=(MA8.below hC9 MA8.lt).cell 6
    have q7:w9.cell? ⟨g8,7,none⟩=some (O U l.n):=(MA8.below hC9 MA8.lt).cell 7
    simp only [Act.put,sA,s0,s1] at hK9
    go_simp
    exact hK9 _ _ rfl hC9 (Below.refl _ _)
   apply aa
   case h1 =>
    intro vs L9 w9 hG9 hC9 hB K9 hK9
    have q0:w9.cell? ⟨w.heap.size,0,none⟩=some (F x.TA x.t.length x.tc):=(LA.below hC9 LA.lt).cell 0
    have q1:w9.cell? ⟨w.heap.size,1,none⟩=some (F x.OA x.o.length x.oc):=(LA.below hC9 LA.lt).cell 1
    have q2:w9.cell? ⟨w.heap.size,2,none⟩=some (O U x.got):=(LA.below hC9 LA.lt).cell 2
    have q3:w9.cell? ⟨w.heap.size,3,none⟩=some (O U x.sold):=(LA.below hC9 LA.lt).cell 3
    have q4:w9.cell? ⟨w.heap.size,4,none⟩=some (O U x.missed):=(LA.below hC9 LA.lt).cell 4
    have q5:w9.cell? ⟨w.heap.size,5,none⟩=some (sK l.D):=(LA.below hC9 LA.lt).cell 5
    have q6:w9.cell? ⟨w.heap.size,6,none⟩=some (sK l.P):=(LA.below hC9 LA.lt).cell 6
    have q7:w9.cell? ⟨w.heap.size,7,none⟩=some (O U l.n):=(LA.below hC9 LA.lt).cell 7
    simp only [Act.put,sA,s0,s1] at hK9
    go_simp
    exact hK9 _ _ rfl hC9 (Below.refl _ _)
   refine ak [] (fun v w9=>∃ g1 g2,v=aG (x.copy g1 g2) l∧ai w9 g1 104 (x.t.flatMap ao.enc)∧ai w9 g2 147 (x.o.flatMap ae.enc)) ?_ (fun vs L9 w9 hG9 hC9 hB K9 hK9=>?_) ?_
   next =>
    intro i9 hi9 hb9 ha9 v w1 w2 hv hT9
    have hb:=hT9
    obtain ⟨g1,g2,e1,e2,e3⟩:=hv
    exact ⟨g1,g2,e1,e2.below hb e2.lt,e3.below hb e3.lt⟩
   next =>
    have d1:=fe hB 1
    simp only [d1] at hK9 ⊢
    simp only [Act.put,sA,s0,s1] at hK9
    go_simp
    refine (fo x l w9 (RA.then hC9) hn hm).mono ?_
    rintro en w8 ⟨g1,g2,rfl,_,_,e2,e3,hb8⟩
    exact hK9 _ _ _ rfl ⟨g1,g2,rfl,e2,e3⟩ (hC9.trans (hb8.mono hC9.size)) hb8
   refine aa (.bool true) (fun vs L9 w9 hG9 hC9 hB K9 hK9=>?_) ?_
   next =>
    have d0:=fe hB 0
    simp only [d0] at hK9 ⊢
    obtain ⟨g1,g2,e1,e2,e3⟩:=fs hB 2
    simp only [e1] at hK9 ⊢
    go_simp
    refine (jq (x.copy p1 p2) (x.copy g1 g2) l w9 (fg (qA1.below hC9 qA1.lt) (qA2.below hC9 qA2.lt) hn hm) (fg e2 e3 hn hm) (decide_eq_true rfl) (decide_eq_true rfl) rfl rfl rfl).mono ?_
    rintro en w8 ⟨rfl,hb8⟩
    exact hK9 _ _ rfl (hC9.trans (hb8.mono hC9.size)) hb8
   apply aa
   case h1 =>
    intro vs L9 w9 hG9 hC9 hB K9 hK9
    have d3:=fe hB 3
    simp only [d3] at hK9 ⊢
    simp only [Act.put,sA,s0,s1] at hK9
    go_simp
    exact hK9 _ _ rfl hC9 (Below.refl _ _)
   refine ay fun vs L9 wB hL9 hbB hB=>?_
   have dl:=ag.eq (hB 4 _ rfl rfl (by decide))
   simp only [dl]
   clear hB hL9 dl
   have BB:=BA.trans (hbB.mono BA.size)
   have KB6:=KA6.below hbB KA6.lt
   have RB6:=RA6.below (hbB.mono (by omega))
   have MB8:=MA8.below hbB MA8.lt
   have qB1:=qA1.below hbB qA1.lt
   have qB2:=qA2.below hbB qA2.lt
   have KB9:=KA9.below hbB KA9.lt
   have OB9':=OA9'.then hbB
   have UB9':=UA9'.then hbB
   have H4B:=aq H4 hbB
   have LB:=LA.below hbB LA.lt
   have gAB:=hbB.size
   clear LA KA6 RA6 MA8 qA1 qA2 KA9 OA9' UA9' BA hbB RA H4
   obtain ⟨c0,c1,c2,c3,c4,c5,c6,c7⟩:=cells8 MB8
   go_wp2_with fail
   refine (ru x l p1 p2 w4.heap.size g8 wB hn hm hp1 hp2 gp2 (by omega) qB1 qB2).mono ?_
   rintro e wC ⟨⟨k1,rfl,hk1⟩,hmC⟩
   clear c0 c1 c2 c3 c4 c5 c6 c7
   have hbC:=hmC.below (show w4.heap.size≤wB.heap.size by omega)
   have HBC:=H4B.trans hbC
   have BC:=BB.trans (hbC.mono (by have:=LB.lt; omega))
   have KC6:=hmC.lies KB6 (.inl gk6)
   have RC6:=RB6.below hbC
   have KC9:=hmC.lies KB9 (.inr (by omega))
   have OC9:=hmC.own OB9' (by omega)
   have UC9:=hmC.own UB9' (by omega)
   have LC':=hmC.lies LB (.inl (by omega))
   have gBC:=hmC.size
   clear KB6 RB6 MB8 qB1 qB2 KB9 OB9' UB9' LB hmC BB H4B
   obtain ⟨c0,c1,c2,c3,c4,c5,c6,c7⟩:=cells8 KC9
   obtain ⟨d0,d1,d2,d3,d4,d5,d6,d7⟩:=cells8 KC6
   go_wp2_with fail
   refine (nI (oH OC9 UC9) (RC6.mono (by omega))).mono ?_
   rintro e wD ⟨rfl,hbD⟩
   clear c0 c1 c2 c3 c4 c5 c6 c7 d0 d1 d2 d3 d4 d5 d6 d7
   have BD:=BC.trans (hbD.mono BC.size)
   have HBD:=HBC.trans (hbD.mono (by omega))
   have KD6:=KC6.below hbD KC6.lt
   have RD6:=RC6.below (hbD.mono (by omega))
   have KD9:=KC9.below hbD KC9.lt
   have OD9:=OC9.then hbD
   have UD9:=UC9.then hbD
   have LD:=LC'.below hbD LC'.lt
   have gCD:=hbD.size
   clear KC6 RC6 KC9 OC9 UC9 LC' BC hbD hbC HBC
   obtain ⟨mk,hmk⟩ : ∃ mk:Int,1+2 * (y.t.length:Int)+3 * (y.o.length:Int)=mk:=⟨_,rfl⟩
   have hmk0:0≤mk:=by omega
   have hmm:(mk != mk)=false:=by simp
   have HH:=fun W h h'=>rt TA9 OA9 tc9 oc9 y l2 W yt yo h h'
   simp only [hmk] at HH
   have HH:=Lib.hid HH
   obtain ⟨c0,c1,c2,c3,c4,c5,c6,c7⟩:=cells8 KD9
   go_wp2_with fail
   refine (rr TA9 OA9 tc9 oc9 w6.heap.size y l2 _ _ wD yt yo (by omega) OD9 UD9).mono ?_
   rintro e wE ⟨rfl,OE,UE,hbE,hKE⟩
   rw [hmk]
   clear hmk
   clear c0 c1 c2 c3 c4 c5 c6 c7
   have BE:=BD.trans (hbE.mono (by omega))
   have KE6:=hKE _ _ KD6
   have KE9:=hKE _ _ KD9
   have RE6:=RD6.below (hbE.mono (by omega))
   have LE:=LD.below hbE (by omega)
   have HBE:=HBD.trans (hbE.mono (by omega))
   have gDE:=hbE.size
   clear KD6 KD9 RD6 LD BD OD9 UD9 hKE hbE HBD
   obtain ⟨c0,c1,c2,c3,c4,c5,c6,c7⟩:=cells8 KE9
   go_wp2_with fail
   refine (HH.out wE OE.reads UE.reads).mono ?_
   rintro e wF ⟨rfl,hbF⟩
   clear c0 c1 c2 c3 c4 c5 c6 c7
   have BF:=BE.trans (hbF.mono BE.size)
   have KF6:=KE6.below hbF KE6.lt
   have KF9:=KE9.below hbF KE9.lt
   have RF6:=RE6.below (hbF.mono (by omega))
   have LF:=LE.below hbF LE.lt
   have OF:=OE.then hbF
   have UF:=UE.then hbF
   have HBF:=HBE.trans (hbF.mono (by omega))
   have RF:=R4.then HBF
   have gEF:=hbF.size
   clear KE6 KE9 RE6 LE OE UE BE hbF HBE
   obtain ⟨c0,c1,c2,c3,c4,c5,c6,c7⟩:=cells8 LF
   go_wp2_with fail
   refine (fo x l _ RF hn hm).mono ?_
   rintro e wG ⟨n1,n2,rfl,hn1,hn2,hln1,hln2,hbG⟩
   go_wp2_with fail
   refine (cI n1 n2 _ (fg hln1 hln2 hn hm) ((hLW.then BF).then hbG)).mono ?_
   rintro e wH ⟨v,rfl,⟨TA14,tc14,OA14,oc14,rfl,hT14,hO14⟩,hbH⟩
   clear c0 c1 c2 c3 c4 c5 c6 c7
   go_upto_region 27 with fail
   have hal:=(Below.refl wH.heap.size wH).alloc (Nat.le_refl _) (.cells #[F TA14 y.t.length tc14,F OA14 y.o.length oc14,O U y.got,O U y.sold,O U y.missed,sK l2.D,sK l2.P,O U l2.n] 42)
   have hxH:=aq (aq hbG hbH) hal
   have K14:=ai.new wH 42 #[F TA14 y.t.length tc14,F OA14 y.o.length oc14,O U y.got,O U y.sold,O U y.missed,sK l2.D,sK l2.P,O U l2.n]
   have R14:aO (wH.alloc (.cells #[F TA14 y.t.length tc14,F OA14 y.o.length oc14,O U y.got,O U y.sold,O U y.missed,sK l2.D,sK l2.P,O U l2.n] 42)) (wH.alloc (.cells #[F TA14 y.t.length tc14,F OA14 y.o.length oc14,O U y.got,O U y.sold,O U y.missed,sK l2.D,sK l2.P,O U l2.n] 42)).heap.size (y.at TA14 tc14 OA14 oc14):=aO.then ⟨aC hT14,aC hO14⟩ hal
   have gFH:wF.heap.size≤wH.heap.size:=(aq hbG hbH).size
   generalize wH.alloc (.cells #[F TA14 y.t.length tc14,F OA14 y.o.length oc14,O U y.got,O U y.sold,O U y.missed,sK l2.D,sK l2.P,O U l2.n] 42)=wI at hxH K14 R14 ⊢
   generalize wH.heap.size=g14 at K14 gFH ⊢
   have BI:=BF.trans (hxH.mono BF.size)
   have KI6:=KF6.below hxH KF6.lt
   have KI9:=KF9.below hxH KF9.lt
   have RI6:=RF6.below (hxH.mono (by omega))
   have OI:=OF.then hxH
   have UI:=UF.then hxH
   have gFI:=hxH.size
   clear hal hbG hbH hln1 hln2 hT14 hO14 KF6 KF9 RF6 LF OF UF BF HBF RF cI hxH
   obtain ⟨c0,c1,c2,c3,c4,c5,c6,c7⟩:=cells8 K14
   obtain ⟨d0,d1,d2,d3,d4,d5,d6,d7⟩:=cells8 KI6
   go_wp2_with fail
   refine (nI R14 (RI6.mono (by omega))).mono ?_
   rintro e wJ ⟨rfl,hbJ⟩
   clear c0 c1 c2 c3 c4 c5 c6 c7 d0 d1 d2 d3 d4 d5 d6 d7
   have BJ:=BI.trans (hbJ.mono BI.size)
   have KJ9:=KI9.below hbJ KI9.lt
   have OJ:=OI.then hbJ
   have UJ:=UI.then hbJ
   clear KI6 KI9 RI6 OI UI K14 R14 BI hbJ
   obtain ⟨c0,c1,c2,c3,c4,c5,c6,c7⟩:=cells8 KJ9
   go_wp2_with fail
   refine (HH.out wJ OJ.reads UJ.reads).mono ?_
   rintro e wK ⟨rfl,hbK⟩
   clear c0 c1 c2 c3 c4 c5 c6 c7
   clear KJ9 OJ UJ
   go_wp2
   go_ret
   exact ⟨rfl,BJ.trans (hbK.mono BJ.size)⟩
  ·have hz0:z = -1:=by
    rw [hz]; unfold dE bY
    by_cases hq:((x.t.length+x.o.length:Nat):Int)≤1048576
    ·rw [if_pos hq,if_neg (fun hh=>hbig ⟨hq,hh⟩)]
    ·rw [if_neg hq,if_neg (by omega)]
   rw [hz0] at HZ
   clear hz hz0 hbig
   go_enter Tryz.func4,Tryz.ntmps4
   go_wp2_with fail
   generalize w.alloc (.cells #[F x.TA x.t.length x.tc,F x.OA x.o.length x.oc,O U x.got,O U x.sold,O U x.missed,sK l.D,sK l.P,O U l.n] 35)=W at b0 L0 ⊢
   refine (jp x l _ _ hl1 hl2 hd1 hd2 (by omega) (by omega)).mono ?_
   rintro e w1 ⟨rfl,hb1⟩
   rw [HZ.out]
   go_wp2
   go_ret
   exact ⟨rfl,b0.trans (hb1.mono b0.size)⟩
 ·have hbi:(1048576:Int) < (line.size:Int):=by omega
  go_enter Tryz.func4,Tryz.ntmps4
  go_wp2
  go_ret
  exact ⟨rfl,b0⟩
end Go.Proofs.YtoeoimhemojdeaaGreatDoor
namespace Go.Proofs.YtoeoimhemojdeaaGreatDoor
open Go.ChangeShapes Go.WideShapes Go.ChangeAt Go.RowKit Go.Deep
section
variable {H:Type} {enc:TypeId × Value→H} {P:Program} {w:World} {base:Nat} {spare:Nat→Bool} {held:Bool}
theorem hE {α:Type} (en:α→List Value) {t e:TypeId} {fs:Array Field} {k n:Nat} {v:Value} {x:DataW H × List MemPlace} (ht:P.underlying t=some (.slice e)) (he:P.underlying e=some (.struct fs)) (hone:oneCellFields P fs=true) (hC:P.cellsOf e=fs.size) (hint:gQ P fs=true) (hk:fs.size=k) (hk0:0 < k)
  (hen:∀ ns:List Int,ns.length=k→∃ x,ns.map (Value.int .i64)=en x)
  (h:DataW.trod enc P w base spare held n t [v]=some x):∃ A c,∃ l:List α,v=.slice A l.length c∧bv w w.heap.size k A l.length (l.flatMap en):=by
 obtain ⟨A,len,cap,hv,css,hl,hS,hcs⟩:=oO ht (hC.trans hk) hk0 h
 obtain ⟨l,hfl,hll⟩:=kv en css (fun cs hc=>by
  obtain ⟨hlen,m,y,hy⟩:=hcs cs hc
  obtain ⟨ns,hn',hc'⟩:=fW he hone hC hint hk hy
  obtain ⟨x,hx⟩:=hen ns hn'
  exact ⟨x,by rw [hc',hx]⟩)
 refine ⟨A,cap,l,by rw [hll,hl]; exact hv, ?_⟩
 rw [hll,hl,← hfl]; exact hS
end
section
variable {H:Type} {enc:TypeId × Value→H} {w:World} {base:Nat} {spare:Nat→Bool} {held:Bool}
theorem lh {n:Nat} {cs:List Value} {x:DataW H × List MemPlace} (h:DataW.trod enc Tryz.prog w base spare held n 33 cs=some x):∃ p:aL,cs=p.enc∧aO w w.heap.size p:=by
 obtain ⟨hl,hf⟩:=gz Tryz.underlying33 (by kernel_rfl) (by kernel_rfl) h
 match cs,hl with
 | [v0,v1,v2,v3,v4],_ =>
  obtain ⟨u0,_,_,e0,t0⟩:=hf 0 _ rfl
  obtain ⟨u1,_,_,e1,t1⟩:=hf 1 _ rfl
  obtain ⟨u2,_,_,e2,t2⟩:=hf 2 _ rfl
  obtain ⟨u3,_,_,e3,t3⟩:=hf 3 _ rfl
  obtain ⟨u4,_,_,e4,t4⟩:=hf 4 _ rfl
  simp only [List.getElem?_cons_zero,List.getElem?_cons_succ,Option.some.injEq] at e0 e1 e2 e3 e4
  subst e0; subst e1; subst e2; subst e3; subst e4
  obtain ⟨TA,tc,t,rfl,ht⟩:=hE (k:=2) ao.enc Tryz.underlying30 Tryz.underlying166 (by kernel_rfl) (by kernel_rfl) (by kernel_rfl) (by kernel_rfl) (by omega) ao.of_ints_enc t0
  obtain ⟨OA,oc,o,rfl,ho⟩:=hE (k:=3) ae.enc Tryz.underlying31 Tryz.underlying168 (by kernel_rfl) (by kernel_rfl) (by kernel_rfl) (by kernel_rfl) (by omega) ae.of_ints_enc t1
  obtain ⟨g,rfl,_,_⟩:=gP Tryz.underlying3 t2
  obtain ⟨s,rfl,_,_⟩:=gP Tryz.underlying3 t3
  obtain ⟨m,rfl,_,_⟩:=gP Tryz.underlying3 t4
  exact ⟨⟨TA,t,tc,OA,o,oc,g,s,m⟩,rfl,ht,ho⟩
end
end Go.Proofs.YtoeoimhemojdeaaGreatDoor
namespace Go.Proofs.YtoeoimhemojdeaaGreatDoor
open Go.ChangeShapes Go.WideShapes Go.ChangeAt Go.RowKit Go.Deep
section
variable {H:Type} {enc:TypeId × Value→H} {P:Program} {w:World} {base:Nat} {spare:Nat→Bool} {held:Bool}
theorem jb {t:TypeId} {n:Nat} {v:Value} {x:DataW H × List MemPlace} (ht:P.underlying t=some .string) (h:DataW.trod enc P w base spare held n t [v]=some x) :
  ∃ s:ByteArray,v=.string s∧s.size≤9223372036854775807:=by
 obtain ⟨s,e,_,hs⟩:=DataW.trod_string ht h
 exact ⟨s,by simpa using e,by unfold maxLen at hs; exact hs⟩
end
section
variable {H:Type} {enc:TypeId × Value→H} {w:World} {base:Nat} {spare:Nat→Bool} {held:Bool}
end
end Go.Proofs.YtoeoimhemojdeaaGreatDoor
namespace Go.Proofs.YtoeoimhemojdeaaGreatDoor
open Go.ChangeShapes Go.WideShapes Go.ChangeAt Go.RowKit Go.Deep
section
variable {H:Type} {enc:TypeId × Value→H} {w:World} {base:Nat} {spare:Nat→Bool} {held:Bool}
theorem nJ {P:Program} {t:TypeId} {b0:Nat} {r:Reach} {v:Value} {d:DataW H} {q:List MemPlace} (ht:P.underlying t=some .string) (hv:Value.okWide P w r b0 t v) (h:DataW.Trod enc P w base spare held t v d q) :
  ∃ s:ByteArray,v=.string s∧s.size≤9223372036854775807:=by
 obtain ⟨s,rfl⟩:=okWide_string ht hv
 obtain ⟨n,hn⟩:=h
 obtain ⟨s',e,_,hs⟩:=DataW.trod_string ht hn
 simp [Value.cells] at e
 subst e
 exact ⟨s,rfl,by unfold maxLen at hs; exact hs⟩
set_option maxRecDepth 20000 in
theorem rv {b0:Nat} {r:Reach} {v:Value} {d:DataW H} {q:List MemPlace} (hv:Value.okWide Tryz.prog w r b0 9 v) (h:DataW.Trod enc Tryz.prog w base spare held 9 v d q) :
  ∃ s:ByteArray,v=.string s∧s.size≤9223372036854775807:=nJ Tryz.underlying9 hv h
end
end Go.Proofs.YtoeoimhemojdeaaGreatDoor
namespace Go.Proofs.YtoeoimhemojdeaaGreatDoor
open Go.ChangeShapes Go.WideShapes Go.ChangeAt Go.RowKit Go.Deep
section
variable {H:Type} {enc:TypeId × Value→H} {w:World} {base:Nat} {spare:Nat→Bool} {held:Bool}
end
end Go.Proofs.YtoeoimhemojdeaaGreatDoor
namespace Go.Proofs.YtoeoimhemojdeaaGreatDoor
open Go.ChangeShapes Go.WideShapes Go.ChangeAt Go.RowKit Go.Deep
section
variable {H:Type} {enc:TypeId × Value→H} {w:World} {base:Nat} {spare:Nat→Bool} {held:Bool}
set_option maxRecDepth 20000 in
theorem r7 {n:Nat} {cs:List Value} {x:DataW H × List MemPlace} (hn:DataW.trod enc Tryz.prog w base spare held n 23 cs=some x) :
  ∃ l:Lg,cs = [.string l.D,.string l.P,.int .i64 l.n]∧l.D.size≤9223372036854775807∧l.P.size≤9223372036854775807∧-9223372036854775808≤l.n∧l.n≤9223372036854775807:=by
 obtain ⟨hl,hf⟩:=gz Tryz.underlying23 (by kernel_rfl) (by kernel_rfl) hn
 match cs,hl with
 | [v0,v1,v2],_ =>
  obtain ⟨u0,_,_,e0,t0⟩:=hf 0 _ rfl
  obtain ⟨u1,_,_,e1,t1⟩:=hf 1 _ rfl
  obtain ⟨u2,_,_,e2,t2⟩:=hf 2 _ rfl
  simp only [List.getElem?_cons_zero,List.getElem?_cons_succ,Option.some.injEq] at e0 e1 e2
  subst e0; subst e1; subst e2
  obtain ⟨s0,rfl,z0⟩:=jb Tryz.underlying9 t0
  obtain ⟨s1,rfl,z1⟩:=jb Tryz.underlying9 t1
  obtain ⟨m,rfl,z2,z3⟩:=gP Tryz.underlying3 t2
  exact ⟨⟨s0,s1,m⟩,rfl,z0,z1,z2,z3⟩
set_option maxRecDepth 20000 in
theorem nK {n:Nat} {cs:List Value} {x:DataW H × List MemPlace} (hn:DataW.trod enc Tryz.prog w base spare held n 35 cs=some x) :
  ∃ (p:aL) (l:Lg),cs=p.enc++[.string l.D,.string l.P,.int .i64 l.n]∧aO w w.heap.size p∧l.D.size≤9223372036854775807∧l.P.size≤9223372036854775807∧-9223372036854775808≤l.n∧l.n≤9223372036854775807:=by
 obtain ⟨ys,n',_,_,hlen,hyl,hf⟩:=DataW.trod_struct Tryz.underlying35 hn
 have e0:Tryz.prog.cellsOf 33=5:=by kernel_rfl
 have e1:Tryz.prog.cellsOf 23=3:=by kernel_rfl
 have e2:Tryz.prog.cellsOf 35=8:=by kernel_rfl
 have hyl2:ys.length=2:=hyl
 have h0:DataW.trod enc Tryz.prog w base spare held n' 33 ((cs.drop 0).take (Tryz.prog.cellsOf 33))=ys[0]?:=hf 0 _ rfl
 have h1:DataW.trod enc Tryz.prog w base spare held n' 23 ((cs.drop 5).take (Tryz.prog.cellsOf 23))=ys[1]?:=hf 1 _ rfl
 rw [e0,List.drop_zero,List.getElem?_eq_getElem (by omega)] at h0
 rw [e1,List.getElem?_eq_getElem (by omega)] at h1
 rw [e2] at hlen
 obtain ⟨p,hp,hr⟩:=lh h0
 obtain ⟨l,hL,z0,z1,z2,z3⟩:=r7 h1
 refine ⟨p,l, ?_,hr,z0,z1,z2,z3⟩
 rw [List.take_of_length_le (by rw [List.length_drop]; omega)] at hL
 rw [← hp,← hL,List.take_append_drop]
set_option maxRecDepth 100000 in
theorem nM {b0:Nat} {r:Reach} {v:Value} {d:DataW H} {q:List MemPlace} (hv:Value.okWide Tryz.prog w r b0 35 v) (h:DataW.Trod enc Tryz.prog w base spare held 35 v d q) :
  ∃ (p:aL) (l:Lg),v=aG p l∧aO w w.heap.size p∧l.D.size≤9223372036854775807∧l.P.size≤9223372036854775807∧-9223372036854775808≤l.n∧l.n≤9223372036854775807:=by
 obtain ⟨cs,rfl,_⟩:=okWide_struct Tryz.underlying35 hv
 obtain ⟨n,hn⟩:=h
 obtain ⟨p,l,hp,hr⟩:=nK hn
 refine ⟨p,l, ?_,hr⟩
 have hp' : cs.toList=p.enc++[.string l.D,.string l.P,.int .i64 l.n]:=by simpa [Value.cells] using hp
 unfold aG
 rw [show cs=cs.toList.toArray from rfl,hp']; rfl
end
end Go.Proofs.YtoeoimhemojdeaaGreatDoor
