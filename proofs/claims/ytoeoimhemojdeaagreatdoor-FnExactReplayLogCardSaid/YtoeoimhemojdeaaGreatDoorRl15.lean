/- Rl15: the texts ExL ExU LogApp ScrP OffHeld2 NewCon Crash MarkT RecMark LogRecs ReplP TextMk StepCat ScrB ReplI, joined into one file. -/
import Derived.Laws.IdiomStrings
import Derived.Deep.RegionLawGrows
import Derived.Deep.DeepCutAuto
import Derived.Test.YtoeoimhemojdeaaGreatDoorRl01
import Derived.Test.YtoeoimhemojdeaaGreatDoorRl02
import Derived.Test.YtoeoimhemojdeaaGreatDoorRl03
import Derived.Test.YtoeoimhemojdeaaGreatDoorRl04
import Derived.Test.YtoeoimhemojdeaaGreatDoorRl06
import Derived.Test.YtoeoimhemojdeaaGreatDoorRl07
import Derived.Test.YtoeoimhemojdeaaGreatDoorRl09
import Derived.Test.YtoeoimhemojdeaaGreatDoorRl12
import Derived.Test.YtoeoimhemojdeaaGreatDoorRl14

set_option linter.unusedVariables false
open Go.Value renaming int → O, slice → F, string → sQ
open Go.IntKind renaming i64 → U

namespace Go.Proofs.YtoeoimhemojdeaaGreatDoor
open Go.RowKit
theorem bo.then {w w1 w' : World} {B g:Nat} {x:aM} {l:Lg} {R:Option (Oc × ByteArray)} {e:Ending} (hb:Below w.heap.size w w1) (hBw:B≤w.heap.size) (h:bo w1 B g x l R e w'):bo w B g x l R e w':=by
 rcases h with ⟨h1,h2,h3⟩ | ⟨z,r,h1,h2,h3,h4,h5,h6⟩
 ·exact .inl ⟨h1,h2,ar hb h3⟩
 ·exact .inr ⟨z,r,h1,h2,h3,(hb.mono hBw).trans h4,Nat.le_trans hb.size h5,fun j hj hne=>(h6 j (Nat.lt_of_lt_of_le hj hb.size) hne).trans (hb.block j hj)⟩
theorem bo.ofT {w w' : World} {B g:Nat} {x:aM} {l:Lg} {R:Option ByteArray} {e:Ending} (h:de w R e w') (hCI:db w B g x.c l) (hBw:B≤w.heap.size):bo w B g x l (R.map (x.c,·)) e w':=by
 obtain ⟨⟨s,rfl,h2⟩,h3⟩:=h
 cases R with
 | none=>exact .inl ⟨rfl,⟨s,rfl⟩,h3⟩
 | some r =>
  have:=h2 r rfl
  subst this
  exact .inr ⟨x.c,s,rfl,rfl,hCI.below h3,h3.mono hBw,h3.size,fun j hj _=>h3.block j hj⟩
theorem bo.form {w w' : World} {B g:Nat} {x:aM} {l:Lg} {R:Option (Oc × ByteArray)} {e:Ending} (h:bo w B g x l R e w'):∃ s b,e=.returned (.tuple #[sQ s,.bool b]):=by
 rcases h with ⟨_,⟨s,h2⟩,_⟩ | ⟨z,r,_,h2,_⟩
 ·exact ⟨s,false,h2⟩
 ·exact ⟨r,true,h2⟩
theorem r2 {m:List Int} {rest:List Value} {k:Nat} (h:k < m.length):(bv m++rest)[k]?=some (O U m[k]):=by
 rw [List.getElem?_append_left (by simpa using h),List.getElem?_map,List.getElem?_eq_getElem h]; rfl
set_option maxRecDepth 100000 in
set_option maxHeartbeats 8000000 in
theorem oW (x:aM) (l:Lg) (line:ByteArray) (g:Nat) (W0 w:World) (hL:ai w g 42 [F x.TA x.t.length x.tc,F x.OA x.o.length x.oc,O U x.got,O U x.sold,O U x.missed,sQ l.D,sQ l.P,O U l.n]) (hB:W0.heap.size≤g) (hb0:Below W0.heap.size W0 w)
  (hT:w.ownsRow W0.heap.size 104 2 (F x.TA x.t.length x.tc) x.t.length (x.t.flatMap aq.enc)) (hO:w.ownsRow W0.heap.size 147 3 (F x.OA x.o.length x.oc) x.o.length (x.o.flatMap ae.enc)) (G:bn x) (hs:line.size≤1000) (hLW:LW W0) :
  Calls Tryz.prog 52 #[.pointer (some ⟨g,0,none⟩),sQ line] w (bo w W0.heap.size g x l (gX x line)):=by
 have hLw:=hLW.then hb0
 have hBw:W0.heap.size≤w.heap.size:=hb0.size
 have hR:aQ w w.heap.size x:=⟨aB hT,aB hO⟩
 have hCI:db w W0.heap.size g x.c l:=⟨x.TA,x.tc,x.OA,x.oc,hL,hT,hO⟩
 have hSP:=ro line 32 w (by omega) hLw
 have hpc:=lh (b:=32) (n:=1000) (s:=bl line) (by rw [ap]; exact hs)
 have hpm:=lg (b:=32) (n:=1000) (s:=bl line) (by rw [ap]; exact hs)
 have HC0:=Lib.hid (fun h=>oM (x:=x) (line:=line) h)
 have HC1:=Lib.hid (fun ns h=>oN (x:=x) (line:=line) (ns:=ns) h)
 have HWD:Hid (wd (bl line) 0=⟨((aG 32 (bl line)).getD 0 []).toArray⟩):=rfl
 obtain ⟨ps,hps⟩ : ∃ ps,aG 32 (bl line)=ps:=⟨_,rfl⟩
 simp only [hps] at hSP hpc hpm HC0 HC1 HWD
 have HPT:=Lib.hid hpm
 obtain ⟨hp1,hp2⟩:=hpc
 obtain ⟨R,hRe⟩ : ∃ R,gX x line=R:=⟨_,rfl⟩
 rw [hRe] at HC0 HC1 ⊢
 obtain ⟨w0,hw0⟩ : ∃ w0,wd (bl line) 0=w0:=⟨_,rfl⟩
 rw [hw0] at HC1 HWD
 clear hps hpm hRe hw0 hT hO
 go_enter Tryz.func52,Tryz.ntmps52
 go_wp2_with fail
 refine hSP.mono ?_
 rintro e w3 ⟨rfl,L8,hb3⟩
 have S3:=Lib.hid (rW.mk (w:=w) (v:=F none 0 0) (m:=[]) (rest:=[]) hb3 (by rw [List.append_nil]; exact L8) (World.ownsRow_nil _ _ _ _))
 clear hb3 hSP L8
 obtain ⟨N1,hN1⟩ : ∃ N1,ps.length=N1+1:=⟨ps.length - 1,by omega⟩
 rw [hN1]
 generalize hg8:w.heap.size=g8 at S3 ⊢
 by_cases h0N:N1=0
 ·subst h0N
  go_wp2_with fail
  go_loopw [7,9,10,11,17] (fun o _ _ _ i wr=>i=O U 0∧o=F none 0 0∧Hid (rW w wr g8 ps [] (F none 0 0) [])) (fun _ _ _ _ _ _=>0)
  case atStart=>exact ⟨rfl,rfl,S3⟩
  case round =>
   clear S3
   obtain ⟨rfl,rfl,HS⟩:=hrel
   have HND:cZ (ps.drop 1)=some []:=by rw [List.drop_eq_nil_of_le (by omega)]; rfl
   obtain ⟨m,hmm⟩ : ∃ m:List Int,([] : List Int)=m:=⟨_,rfl⟩
   rw [hmm] at HS HND
   have e0:m.length=0:=by rw [← hmm]; rfl
   clear hmm
   have HNS:Hid (cZ (ps.drop 1)=some m):=HND
   have HE:=Lib.hid (HC1.out m HNS.out)
   have S:=HS.out
   have bw:=S.bl
   have hLr:=hL.below bw hL.lt
   have hRr:=hR.then bw
   have LW8:=S.ws
   have hrow:=S.row
   have hCIr:=hCI.below bw
   have hltr:=(hLw.then bw).tab
   have hb0r:=hb0.trans (bw.mono hBw)
   have hBr:W0.heap.size≤wr.heap.size:=hb0r.size
   have c80:wr.cell? ⟨g8,0,none⟩=some (sQ w0):=by
    rw [LW8.cell,HWD.out,dQ (by omega:0 < ps.length)]; exact hE ps _ _ (by omega)
   have HB:=Lib.hid bw
   have HR1:=HE.out
   clear HC0 HC1 HWD HPT hCI hL hR hLw HE bw
   rw [mc e0] at HR1
   have hc:=mU x l w0 g wr hLr hRr G hltr
   subst HR1
   go_wp2_with fail
   refine hc.mono ?_
   rintro e w7 hG
   have hM:=bo.then HB.out hBw (bo.ofT hG hCIr hBr)
   obtain ⟨s,b,rfl⟩:=hM.form
   have HM:=Lib.hid hM
   clear hM hG
   go_wp2_with fail
   go_ret2
   exact HM.out
 ·have hN0:0 < N1:=by omega
  go_wp2_with fail
  go_loopw [7,9,10,11,17] (fun o _ _ _ i wr=>∃ (k:Nat) (A:Option Addr) (c:Nat) (m:List Int),k≤N1∧i=O U k∧o=F A m.length c∧m.length≤k∧Hid (rW w wr g8 ps [] (F A m.length c) m)∧Hid (fp m (ps.drop (k+1))=cZ (ps.drop 1))) (fun _ _ _ _ i _=>N1 - (intOf i).toNat)
  case atStart=>exact ⟨0,none,0,[],Nat.zero_le _,rfl,rfl,Nat.zero_le _,S3,kX _⟩
  case round =>
   clear S3
   obtain ⟨k,A,c,m,hk,rfl,rfl,hmk,HS,HRN⟩:=hrel
   by_cases hlt:k < N1
   ·have hlp:k+1 < ps.length:=by omega
    have hlt2:(k:Int) < (N1:Int):=by omega
    have c0:wr.cell? ⟨g8,1+k,none⟩=some (sQ ⟨(ps[k+1]'hlp).toArray⟩):=by
     rw [HS.out.ws.cell,Nat.add_comm 1 k]; exact hE ps _ _ hlp
    have ht:=HPT.out (ps[k+1]'hlp) (List.getElem_mem _)
    obtain ⟨t,hte⟩ : ∃ t:ByteArray,t=⟨(ps[k+1]'hlp).toArray⟩:=⟨_,rfl⟩
    have hbt:bl t=ps[k+1]'hlp:=by rw [hte,bM]
    rw [← hte] at c0
    have hzt:t.size≤1000:=by rw [← ap,hbt]; exact ht
    clear hte ht
    have HN0:Hid (ce (bl t)=none→cZ (ps.drop 1)=none):=fun hn=>by
     rw [← HRN.out]; exact kY hlp (by rw [← hbt]; exact hn)
    have HN1:Hid (∀ n,ce (bl t)=some n→fp (m++[n]) (ps.drop (k+1+1))=cZ (ps.drop 1)):=fun n hn=>by
     rw [← HRN.out]; exact (kZ hlp (by rw [← hbt]; exact hn)).symm
    have hpi:=fun W hW=>nF t W (by omega) hW
    have hLr:=hLw.then HS.out.bl
    unfold hH at hpi
    obtain ⟨q,hq⟩ : ∃ q,ce (bl t)=q:=⟨_,rfl⟩
    rw [hq] at HN0 HN1 hpi
    clear hq hbt
    cases q with
    | none =>
     have HE:=HC0.out (HN0.out rfl)
     simp only [Option.isSome_none,Option.getD_none] at hpi
     rw [HE]
     clear HE
     go_wp2_with fail
     refine (hpi _ hLr).mono ?_
     rintro e w4 ⟨rfl,hb4⟩
     have b5:=Lib.hid (ar HS.out.bl hb4)
     clear hb4 HS HRN
     go_wp2_with fail
     go_ret2
     exact bo.no b5.out
    | some n =>
     have HN:=Lib.hid (HN1.out n rfl)
     simp only [Option.isSome_some,Option.getD_some] at hpi
     go_wp2_with fail
     refine (hpi _ hLr).mono ?_
     rintro e w4 ⟨rfl,hb4⟩
     have HS4:=Lib.hid (HS.out.then hb4)
     have HRW:=Lib.hid HS4.out.row
     have hsz:w.heap.size≤w4.heap.size:=HS4.out.bl.size
     go_wp2_with (at_builtin; refine bU (w0:=w4) rfl _ _ 100 rfl 3 _ 1 8 Tryz.underlying100 gF rfl (by omega) (by omega) w.heap.size _ _ _ rfl HRW #[O U n] 1 _ rfl (by first | rfl | exact Array.size_push _) rfl (by simp [Value.oneCell']) (by omega) hsz rfl rfl rfl rfl ?_; intro v6 w6 HO6 hg6 hb6)
     have HNEW:=Lib.hid (HS4.out.push (n:=n) HO6.out hg6 hb6)
     obtain ⟨A6,c6,hv6⟩:=aw HO6.out
     subst hv6
     go_wp2
     go_roundw
     case rel=>exact ⟨k+1,A6,c6,m++[n],by omega,by go_num,by simp,by simp; omega,by rw [Hid]; simpa using HNEW.out,HN.out⟩
     case measure=>simp [intOf]; omega
   ·have hlt2 : ¬ (k:Int) < (N1:Int):=by omega
    have HND:cZ (ps.drop 1)=some m:=by
     have h1:=HRN.out; rw [List.drop_eq_nil_of_le (by omega),l9] at h1; exact h1.symm
    have hlt0:=hL.lt
    have HNS:Hid (cZ (ps.drop 1)=some m):=HND
    have HE:=Lib.hid (HC1.out m HNS.out)
    have S:=HS.out
    have bw:=S.bl
    have hLr:=hL.below bw hL.lt
    have hRr:=hR.then bw
    have LW8:=S.ws
    have hrow:=S.row
    have hCIr:=hCI.below bw
    have hltr:=(hLw.then bw).tab
    have hb0r:=hb0.trans (bw.mono hBw)
    have hBr:W0.heap.size≤wr.heap.size:=hb0r.size
    have c80:wr.cell? ⟨g8,0,none⟩=some (sQ w0):=by
     rw [LW8.cell,HWD.out,dQ (by omega:0 < ps.length)]; exact hE ps _ _ (by omega)
    have hpsN:0 < N1+1:=by omega
    have HB:=Lib.hid bw
    have HR1:=HE.out
    clear HC0 HC1 HWD HPT hCI hL hR hLw HE bw
    clear HRN
    by_cases e0:m.length=0
    ·have z0:((m.length:Int) == 0)=true:=by rw [e0]; rfl
     have z1:((m.length:Int) == 1)=false:=beq_false_of_ne (by omega)
     have z2:((m.length:Int) == 2)=false:=beq_false_of_ne (by omega)
     have z3:((m.length:Int) == 3)=false:=beq_false_of_ne (by omega)
     rw [mc e0] at HR1
     have hc:=mU x l w0 g wr hLr hRr G hltr
     subst HR1
     go_wp2_with fail
     refine hc.mono ?_
     rintro e w7 hG
     have hM:=bo.then HB.out hBw (bo.ofT hG hCIr hBr)
     obtain ⟨s,b,rfl⟩:=hM.form
     have HM:=Lib.hid hM
     clear hM hG
     go_wp2_with fail
     go_ret2
     exact HM.out
    by_cases e1:m.length=1
    ·have z0:((m.length:Int) == 0)=false:=beq_false_of_ne (by omega)
     have z1:((m.length:Int) == 1)=true:=by rw [e1]; rfl
     have z2:((m.length:Int) == 2)=false:=beq_false_of_ne (by omega)
     have z3:((m.length:Int) == 3)=false:=beq_false_of_ne (by omega)
     obtain ⟨gN,cN,rN,hv,hgN,LN,_⟩:=bJ hrow (by omega)
     injection hv with ea eb ec
     subst ea; subst ec
     clear eb
     have hm0:(0:Int) < (m.length:Int):=by omega
     have hn0:0 < m.length:=by omega
     have d0n:wr.cell? ⟨gN,0,none⟩=some (O U (m[0]'hn0)):=by rw [LN.cell]; exact r2 hn0
     rw [qp e1 hn0] at HR1
     obtain ⟨a0,ha0⟩ : ∃ a,m[0]'hn0=a:=⟨_,rfl⟩
     rw [ha0] at d0n HR1
     clear ha0
     cases hq:gi x w0 a0 with
     | none =>
      have hc:∀ W,ai W g 42 [F x.TA x.t.length x.tc,F x.OA x.o.length x.oc,O U x.got,O U x.sold,O U x.missed,sQ l.D,sQ l.P,O U l.n]→aQ W W.heap.size x→hU W→Calls Tryz.prog 98 #[.pointer (some ⟨g,0,none⟩),sQ w0,O U a0] W fun e w'=>(∃ s,e=.returned (.tuple #[sQ s,.bool false]))∧Below W.heap.size W w':=fun W hL hR hT=>by
       have:=qq x l w0 a0 g W hL hR G hT
       rw [hq] at this
       exact this.mono fun _ _ ⟨⟨s,h1,_⟩,h2⟩=>⟨⟨s,h1⟩,h2⟩
      rw [hq] at HR1
      simp only [Option.map_none] at HR1
      clear hq
      subst HR1
      go_wp2_with fail
      refine an (fun _=>(fun W9=>Below wr.heap.size wr W9)) (fun _ w1 w2=>Below w1.heap.size w1 w2) (by kernel_rfl) (by kernel_rfl) (by kernel_rfl) (Below.refl _ _).drew ?_
      simp only [ax,Act.put,List.setIfInBounds_toArray,List.set_cons_zero,List.set_cons_succ,Nat.zero_add,Nat.reduceAdd]
      apply aa
      case h1 =>
       intro vs L9 w9 hG9 hC9 hB K9 hK9
       simp only [Act.put,sA,s0,s1] at hK9
       go_simp
       exact hK9 _ _ rfl hC9 (Below.refl _ _)
      apply aa
      case h1 =>
       intro vs L9 w9 hG9 hC9 hB K9 hK9
       simp only [Act.put,sA,s0,s1] at hK9
       go_simp
       exact hK9 _ _ rfl hC9 (Below.refl _ _)
      apply aa
      case h1 =>
       intro vs L9 w9 hG9 hC9 hB K9 hK9
       have d1:=fe hB 1
       simp only [d1] at hK9 ⊢
       simp only [Act.put,sA,s0,s1] at hK9
       go_simp
       exact hK9 _ _ rfl hC9 (Below.refl _ _)
      apply aa
      case h1 =>
       intro vs L9 w9 hG9 hC9 hB K9 hK9
       have d2:=fe hB 2
       simp only [d2] at hK9 ⊢
       have q0:w9.cell? ⟨g8,0,none⟩=some (sQ w0):=(hC9.cell LW8.lt).trans c80
       simp only [Act.put,sA,s0,s1] at hK9
       go_simp
       exact hK9 _ _ rfl hC9 (Below.refl _ _)
      apply aa
      case h1 =>
       intro vs L9 w9 hG9 hC9 hB K9 hK9
       simp only [Act.put,sA,s0,s1] at hK9
       go_simp
       exact hK9 _ _ rfl hC9 (Below.refl _ _)
      apply aa
      case h1 =>
       intro vs L9 w9 hG9 hC9 hB K9 hK9
       have d4:=fe hB 4
       simp only [d4] at hK9 ⊢
       simp only [Act.put,sA,s0,s1] at hK9
       go_simp
       exact hK9 _ _ rfl hC9 (Below.refl _ _)
      apply aa
      case h1 =>
       intro vs L9 w9 hG9 hC9 hB K9 hK9
       have d5:=fe hB 5
       simp only [d5] at hK9 ⊢
       have q0:w9.cell? ⟨gN,0,none⟩=some (O U a0):=(hC9.cell LN.lt).trans d0n
       simp only [Act.put,sA,s0,s1] at hK9
       go_simp
       exact hK9 _ _ rfl hC9 (Below.refl _ _)
      refine ak [] (fun v _=>∃ s,v=.tuple #[sQ s,.bool false]) ?_ (fun vs L9 w9 hG9 hC9 hB K9 hK9=>?_) ?_
      next =>
       intro i9 hi9 hb9 ha9 v w1 w2 hv hT9
       exact hv
      next =>
       have d0:=fe hB 0
       have d3:=fe hB 3
       have d6:=fe hB 6
       simp only [d0,d3,d6] at hK9 ⊢
       simp only [Act.put,sA,s0,s1] at hK9
       go_simp
       refine (hc w9 (hLr.below hC9 hLr.lt) (hRr.then hC9) (hltr.then hC9)).mono ?_
       rintro en w8 ⟨⟨s,rfl⟩,hb8⟩
       exact hK9 _ _ _ rfl ⟨s,rfl⟩ (hC9.trans (hb8.mono hC9.size)) (hb8)
      refine ak [] (fun v _=>∃ s,v=sQ s) ?_ (fun vs L9 w9 hG9 hC9 hB K9 hK9=>?_) ?_
      next =>
       intro i9 hi9 hb9 ha9 v w1 w2 hv hT9
       exact hv
      next =>
       simp only [Act.put,sA,s0,s1] at hK9
       obtain ⟨s,e0⟩:=fs hB 7
       simp only [e0] at hK9 ⊢
       go_simp
       exact hK9 _ _ _ rfl ⟨s,rfl⟩ hC9 (Below.refl _ _)
      refine aa (.bool false) (fun vs L9 w9 hG9 hC9 hB K9 hK9=>?_) ?_
      next =>
       obtain ⟨s,e0⟩:=fs hB 7
       simp only [e0] at hK9 ⊢
       go_simp
       exact hK9 _ _ rfl hC9 (Below.refl _ _)
      refine ak [] (fun v _=>∃ s,v=sQ s) ?_ (fun vs L9 w9 hG9 hC9 hB K9 hK9=>?_) ?_
      next =>
       intro i9 hi9 hb9 ha9 v w1 w2 hv hT9
       exact hv
      next =>
       simp only [Act.put,sA,s0,s1] at hK9
       obtain ⟨s,e0⟩:=fs hB 8
       simp only [e0] at hK9 ⊢
       go_simp
       exact hK9 _ _ _ rfl ⟨s,rfl⟩ hC9 (Below.refl _ _)
      apply aa
      case h1 =>
       intro vs L9 w9 hG9 hC9 hB K9 hK9
       have d9:=fe hB 9
       simp only [d9] at hK9 ⊢
       simp only [Act.put,sA,s0,s1] at hK9
       go_simp
       exact hK9 _ _ rfl hC9 (Below.refl _ _)
      refine az fun vs L9 w9 hL9 hC9 hB=>?_
      obtain ⟨s,dl⟩:=hB 10 _ rfl rfl (by decide)
      have dm:=ag.eq (hB 11 _ rfl rfl (by decide))
      simp only [dl,dm]
      clear hB dl dm
      have HBB:=Lib.hid (ar HB.out hC9)
      go_wp2_with fail
      go_ret2
      exact bo.no HBB.out
     | some rp =>
      have hc:∀ W,ai W g 42 [F x.TA x.t.length x.tc,F x.OA x.o.length x.oc,O U x.got,O U x.sold,O U x.missed,sQ l.D,sQ l.P,O U l.n]→aQ W W.heap.size x→hU W→Calls Tryz.prog 98 #[.pointer (some ⟨g,0,none⟩),sQ w0,O U a0] W fun e w'=>e=.returned (.tuple #[sQ rp,.bool true])∧Below W.heap.size W w':=fun W hL hR hT=>by
       have:=qq x l w0 a0 g W hL hR G hT
       rw [hq] at this
       exact this.mono fun _ _ ⟨⟨s,h1,h3⟩,h2⟩=>⟨by rw [h1,h3 rp rfl]; rfl,h2⟩
      rw [hq] at HR1
      simp only [Option.map_some] at HR1
      clear hq
      subst HR1
      go_wp2_with fail
      refine an (fun _=>(fun W9=>Below wr.heap.size wr W9)) (fun _ w1 w2=>Below w1.heap.size w1 w2) (by kernel_rfl) (by kernel_rfl) (by kernel_rfl) (Below.refl _ _).drew ?_
      simp only [ax,Act.put,List.setIfInBounds_toArray,List.set_cons_zero,List.set_cons_succ,Nat.zero_add,Nat.reduceAdd]
      apply aa
      case h1 =>
       intro vs L9 w9 hG9 hC9 hB K9 hK9
       simp only [Act.put,sA,s0,s1] at hK9
       go_simp
       exact hK9 _ _ rfl hC9 (Below.refl _ _)
      apply aa
      case h1 =>
       intro vs L9 w9 hG9 hC9 hB K9 hK9
       simp only [Act.put,sA,s0,s1] at hK9
       go_simp
       exact hK9 _ _ rfl hC9 (Below.refl _ _)
      apply aa
      case h1 =>
       intro vs L9 w9 hG9 hC9 hB K9 hK9
       have d1:=fe hB 1
       simp only [d1] at hK9 ⊢
       simp only [Act.put,sA,s0,s1] at hK9
       go_simp
       exact hK9 _ _ rfl hC9 (Below.refl _ _)
      apply aa
      case h1 =>
       intro vs L9 w9 hG9 hC9 hB K9 hK9
       have d2:=fe hB 2
       simp only [d2] at hK9 ⊢
       have q0:w9.cell? ⟨g8,0,none⟩=some (sQ w0):=(hC9.cell LW8.lt).trans c80
       simp only [Act.put,sA,s0,s1] at hK9
       go_simp
       exact hK9 _ _ rfl hC9 (Below.refl _ _)
      apply aa
      case h1 =>
       intro vs L9 w9 hG9 hC9 hB K9 hK9
       simp only [Act.put,sA,s0,s1] at hK9
       go_simp
       exact hK9 _ _ rfl hC9 (Below.refl _ _)
      apply aa
      case h1 =>
       intro vs L9 w9 hG9 hC9 hB K9 hK9
       have d4:=fe hB 4
       simp only [d4] at hK9 ⊢
       simp only [Act.put,sA,s0,s1] at hK9
       go_simp
       exact hK9 _ _ rfl hC9 (Below.refl _ _)
      apply aa
      case h1 =>
       intro vs L9 w9 hG9 hC9 hB K9 hK9
       have d5:=fe hB 5
       simp only [d5] at hK9 ⊢
       have q0:w9.cell? ⟨gN,0,none⟩=some (O U a0):=(hC9.cell LN.lt).trans d0n
       simp only [Act.put,sA,s0,s1] at hK9
       go_simp
       exact hK9 _ _ rfl hC9 (Below.refl _ _)
      refine aa (.tuple #[sQ rp,.bool true]) (fun vs L9 w9 hG9 hC9 hB K9 hK9=>?_) ?_
      next =>
       have d0:=fe hB 0
       have d3:=fe hB 3
       have d6:=fe hB 6
       simp only [d0,d3,d6] at hK9 ⊢
       go_simp
       refine (hc w9 (hLr.below hC9 hLr.lt) (hRr.then hC9) (hltr.then hC9)).mono ?_
       rintro en w8 ⟨rfl,hb8⟩
       exact hK9 _ _ rfl (hC9.trans (hb8.mono hC9.size)) (hb8)
      apply aa
      case h1 =>
       intro vs L9 w9 hG9 hC9 hB K9 hK9
       have d7:=fe hB 7
       simp only [d7] at hK9 ⊢
       simp only [Act.put,sA,s0,s1] at hK9
       go_simp
       exact hK9 _ _ rfl hC9 (Below.refl _ _)
      apply aa
      case h1 =>
       intro vs L9 w9 hG9 hC9 hB K9 hK9
       have d7:=fe hB 7
       simp only [d7] at hK9 ⊢
       simp only [Act.put,sA,s0,s1] at hK9
       go_simp
       exact hK9 _ _ rfl hC9 (Below.refl _ _)
      apply aa
      case h1 =>
       intro vs L9 w9 hG9 hC9 hB K9 hK9
       have d8:=fe hB 8
       simp only [d8] at hK9 ⊢
       simp only [Act.put,sA,s0,s1] at hK9
       go_simp
       exact hK9 _ _ rfl hC9 (Below.refl _ _)
      apply aa
      case h1 =>
       intro vs L9 w9 hG9 hC9 hB K9 hK9
       have d9:=fe hB 9
       simp only [d9] at hK9 ⊢
       simp only [Act.put,sA,s0,s1] at hK9
       go_simp
       exact hK9 _ _ rfl hC9 (Below.refl _ _)
      refine az fun vs L9 w9 hL9 hC9 hB=>?_
      have dl:=ag.eq (hB 10 _ rfl rfl (by decide))
      have dm:=ag.eq (hB 11 _ rfl rfl (by decide))
      simp only [dl,dm]
      clear hB dl dm
      have HBB:=Lib.hid (ar HB.out hC9)
      have HCC:=Lib.hid (hCIr.below hC9)
      go_wp2_with fail
      go_ret2
      exact bo.yes rfl HCC.out (HBB.out.mono hBw) HBB.out.size (fun j hj _=>HBB.out.block j hj)
    by_cases e2:m.length=2
    ·have z0:((m.length:Int) == 0)=false:=beq_false_of_ne (by omega)
     have z1:((m.length:Int) == 1)=false:=beq_false_of_ne (by omega)
     have z2:((m.length:Int) == 2)=true:=by rw [e2]; rfl
     have z3:((m.length:Int) == 3)=false:=beq_false_of_ne (by omega)
     obtain ⟨gN,cN,rN,hv,hgN,LN,_⟩:=bJ hrow (by omega)
     injection hv with ea eb ec
     subst ea; subst ec
     clear eb
     have hm0:(0:Int) < (m.length:Int):=by omega
     have hn0:0 < m.length:=by omega
     have hc:=oV x l w0 (some ⟨gN,0,none⟩) c m (by omega) (by omega) g W0 wr hLr hB hb0r hRr (aB hrow) (by intro e; injection e with e; have h1:=hgN; have h2:=hlt0; simp only at e; omega) hLW.tab
     subst HR1
     rw [e2] at hc
     have HC:=Lib.hid hc
     clear hc
     go_upto_region 18 with fail
     go_wp2_with fail
     refine HC.out.mono ?_
     rintro e w7 hG
     have hM:=bo.then HB.out hBw hG
     obtain ⟨s,b,rfl⟩:=hM.form
     have HM:=Lib.hid hM
     clear hM hG
     go_wp2_with fail
     go_ret2
     exact HM.out
    by_cases e3:m.length=3
    ·have z0:((m.length:Int) == 0)=false:=beq_false_of_ne (by omega)
     have z1:((m.length:Int) == 1)=false:=beq_false_of_ne (by omega)
     have z2:((m.length:Int) == 2)=false:=beq_false_of_ne (by omega)
     have z3:((m.length:Int) == 3)=true:=by rw [e3]; rfl
     obtain ⟨gN,cN,rN,hv,hgN,LN,_⟩:=bJ hrow (by omega)
     injection hv with ea eb ec
     subst ea; subst ec
     clear eb
     have hm0:(0:Int) < (m.length:Int):=by omega
     have hn0:0 < m.length:=by omega
     have hc:=oV x l w0 (some ⟨gN,0,none⟩) c m (by omega) (by omega) g W0 wr hLr hB hb0r hRr (aB hrow) (by intro e; injection e with e; have h1:=hgN; have h2:=hlt0; simp only at e; omega) hLW.tab
     subst HR1
     rw [e3] at hc
     have HC:=Lib.hid hc
     clear hc
     go_upto_region 18 with fail
     go_wp2_with fail
     refine HC.out.mono ?_
     rintro e w7 hG
     have hM:=bo.then HB.out hBw hG
     obtain ⟨s,b,rfl⟩:=hM.form
     have HM:=Lib.hid hM
     clear hM hG
     go_wp2_with fail
     go_ret2
     exact HM.out
    have z0:((m.length:Int) == 0)=false:=beq_false_of_ne (by omega)
    have z1:((m.length:Int) == 1)=false:=beq_false_of_ne (by omega)
    have z2:((m.length:Int) == 2)=false:=beq_false_of_ne (by omega)
    have z3:((m.length:Int) == 3)=false:=beq_false_of_ne (by omega)
    rw [oO (by omega)] at HR1
    subst HR1
    go_wp2_with fail
    go_ret2
    exact bo.no HB.out
def qr:Option (Oc × ByteArray)→ByteArray
 | none=>⟨#[63]⟩
 | some r=>if 200 < r.2.size then ⟨#[108,111,110,103]⟩ else r.2
theorem sn (x:aM) (line:ByteArray):kA x line=qr (gX x line):=by unfold kA; cases gX x line <;> rfl
theorem qs (x:aM) (line:ByteArray):oJ x line=eF x (gX x line):=by unfold oJ; cases gX x line <;> rfl
theorem pX (R:Option (Oc × ByteArray)):(qr R).size≤200:=by
 cases R with
 | none=>show (1:Nat)≤200; omega
 | some r =>
  unfold qr; simp only
  split
  ·show (4:Nat)≤200; omega
  ·omega
theorem mh {w w' : World} {g b:Nat} {t:TypeId} {cs:List Value} (h:∀ j,j < w.heap.size→j ≠ g→w'.heap[j]?=w.heap[j]?) (hL:ai w b t cs) (hne:b ≠ g):ai w' b t cs:=(h b hL.lt hne).trans hL
set_option maxRecDepth 100000 in
set_option maxHeartbeats 8000000 in
theorem rq (x:aM) (l:Lg) (line:ByteArray) (w:World) (h:aQ w w.heap.size x) (tl:x.t.length≤1048576) (ol:x.o.length≤1048576) (hs:l.D.size+l.P.size≤2000000) (hsl:line.size≤1048576) (hLW:LW w) (hok:dD x l=false) :
  Calls Tryz.prog 16 #[aL x l,sQ line] w (bV w x l line):=by
 have L1:=(ai.new w 42 #[F x.TA x.t.length x.tc,F x.OA x.o.length x.oc,O U x.got,O U x.sold,O U x.missed,sQ l.D,sQ l.P,O U l.n]).alloc (.cells #[F none 0 0,F none 0 0,O U 0,O U 0,O U 0,sQ ⟨#[]⟩,sQ ⟨#[]⟩,O U 0] 42)
 have L2:=ai.new1 w (.cells #[F x.TA x.t.length x.tc,F x.OA x.o.length x.oc,O U x.got,O U x.sold,O U x.missed,sQ l.D,sQ l.P,O U l.n] 42) 42 #[F none 0 0,F none 0 0,O U 0,O U 0,O U 0,sQ ⟨#[]⟩,sQ ⟨#[]⟩,O U 0]
 have b1:=(Below.refl w.heap.size w).alloc (Nat.le_refl _) (.cells #[F x.TA x.t.length x.tc,F x.OA x.o.length x.oc,O U x.got,O U x.sold,O U x.missed,sQ l.D,sQ l.P,O U l.n] 42)
 have b2:=b1.alloc b1.size (.cells #[F none 0 0,F none 0 0,O U 0,O U 0,O U 0,sQ ⟨#[]⟩,sQ ⟨#[]⟩,O U 0] 42)
 have hW:=h.up b2 (Nat.le_refl _)
 have hge:w.heap.size≤w.heap.size+1:=by omega
 clear b1 h
 go_enter Tryz.func16,Tryz.ntmps16
 go_wp2_with fail
 generalize ((w.alloc (.cells #[F x.TA x.t.length x.tc,F x.OA x.o.length x.oc,O U x.got,O U x.sold,O U x.missed,sQ l.D,sQ l.P,O U l.n] 42)).alloc (.cells #[F none 0 0,F none 0 0,O U 0,O U 0,O U 0,sQ ⟨#[]⟩,sQ ⟨#[]⟩,O U 0] 42))=W at L1 L2 b2 hW ⊢
 refine (dR x l W hW hs (hLW.then b2).tab).mono ?_
 rintro e W3 ⟨rfl,hb3⟩
 have K1:=L1.below hb3 L1.lt
 have K2:=L2.below hb3 L2.lt
 have b5:=b2.trans (hb3.mono b2.size)
 have hW3:=hW.then hb3
 clear hb3 L1 L2 b2 hW
 rw [hok]
 go_wp2_with fail
 refine (eH x l w.heap.size W3 K1 hW3 tl ol).mono ?_
 rintro e W9 ⟨v,rfl,⟨TA,tc,OA,oc,rfl,hT0,hO0⟩,hb9⟩
 have Q2:=K2.below hb9 K2.lt
 have b9:=b5.trans (hb9.mono b5.size)
 have hT3:=af hT0 b5.size
 have hO3:=af hO0 b5.size
 obtain ⟨z0,z1,z2,z3,z4,z5,z6,z7⟩:=cells8 Q2
 obtain ⟨f0,f1,f2,f3,f4,f5,f6,f7⟩:=frz8 Q2
 obtain ⟨hT4,hO4⟩:=dL (F TA x.c.t.length tc) (F OA x.c.o.length oc) (O U x.c.got) (O U x.c.sold) (O U x.c.missed) (sQ l.D) (sQ l.P) (O U l.n) Q2 hT3 hO3
 have bz:=Lib.hid (dN (g:=w.heap.size+1) (b9) hge (F TA x.c.t.length tc) (F OA x.c.o.length oc) (O U x.c.got) (O U x.c.sold) (O U x.c.missed) (sQ l.D) (sQ l.P) (O U l.n))
 have HT4:=Lib.hid hT4
 have HO4:=Lib.hid hO4
 clear K1 K2 Q2 b5 b9 hb9 hT0 hO0 hT3 hO3 hW3 hT4 hO4
 go_wp2_with fail
 refine bodyPost_ret (v:=.tuple #[.agg #[F TA x.c.t.length tc,F OA x.c.o.length oc,O U x.c.got,O U x.c.sold,O U x.c.missed,sQ l.D,sQ l.P,O U l.n],sQ ⟨#[110,111]⟩]) (by simp [results,Tryz.results16,go_sem, *]) rfl (bV.mk (by unfold gH; rw [if_neg (by rw [hok]; exact Bool.false_ne_true)]) (by unfold fC; rw [if_neg (by rw [hok]; exact Bool.false_ne_true)]) (by unfold gj; rw [if_neg (by rw [hok]; exact Bool.false_ne_true)]) ⟨TA,tc,OA,oc,rfl,HT4.out,HO4.out⟩ bz.out)
set_option maxRecDepth 100000 in
set_option maxHeartbeats 8000000 in
theorem pY (x:aM) (l:Lg) (line:ByteArray) (w:World) (h:aQ w w.heap.size x) (tl:x.t.length≤1048576) (ol:x.o.length≤1048576) (hs:l.D.size+l.P.size≤2000000) (hsl:line.size≤1048576) (hLW:LW w) (hok:dD x l=true) (hrk:da.ok ⟨line,⟨#[]⟩⟩=false) :
  Calls Tryz.prog 16 #[aL x l,sQ line] w (bV w x l line):=by
 have L1:=(ai.new w 42 #[F x.TA x.t.length x.tc,F x.OA x.o.length x.oc,O U x.got,O U x.sold,O U x.missed,sQ l.D,sQ l.P,O U l.n]).alloc (.cells #[F none 0 0,F none 0 0,O U 0,O U 0,O U 0,sQ ⟨#[]⟩,sQ ⟨#[]⟩,O U 0] 42)
 have L2:=ai.new1 w (.cells #[F x.TA x.t.length x.tc,F x.OA x.o.length x.oc,O U x.got,O U x.sold,O U x.missed,sQ l.D,sQ l.P,O U l.n] 42) 42 #[F none 0 0,F none 0 0,O U 0,O U 0,O U 0,sQ ⟨#[]⟩,sQ ⟨#[]⟩,O U 0]
 have b1:=(Below.refl w.heap.size w).alloc (Nat.le_refl _) (.cells #[F x.TA x.t.length x.tc,F x.OA x.o.length x.oc,O U x.got,O U x.sold,O U x.missed,sQ l.D,sQ l.P,O U l.n] 42)
 have b2:=b1.alloc b1.size (.cells #[F none 0 0,F none 0 0,O U 0,O U 0,O U 0,sQ ⟨#[]⟩,sQ ⟨#[]⟩,O U 0] 42)
 have hW:=h.up b2 (Nat.le_refl _)
 have hge:w.heap.size≤w.heap.size+1:=by omega
 clear b1 h
 go_enter Tryz.func16,Tryz.ntmps16
 go_wp2_with fail
 generalize ((w.alloc (.cells #[F x.TA x.t.length x.tc,F x.OA x.o.length x.oc,O U x.got,O U x.sold,O U x.missed,sQ l.D,sQ l.P,O U l.n] 42)).alloc (.cells #[F none 0 0,F none 0 0,O U 0,O U 0,O U 0,sQ ⟨#[]⟩,sQ ⟨#[]⟩,O U 0] 42))=W at L1 L2 b2 hW ⊢
 refine (dR x l W hW hs (hLW.then b2).tab).mono ?_
 rintro e W3 ⟨rfl,hb3⟩
 have K1:=L1.below hb3 L1.lt
 have K2:=L2.below hb3 L2.lt
 have b5:=b2.trans (hb3.mono b2.size)
 have hW3:=hW.then hb3
 clear hb3 L1 L2 b2 hW
 rw [hok]
 go_wp2_with fail
 refine (ew ⟨line,⟨#[]⟩⟩ W3 (Nat.le_trans hsl (by decide)) (show (0:Nat)≤1000000000 by omega)).mono ?_
 rintro e W4 ⟨rfl,hb4⟩
 have N1:=K1.below hb4 K1.lt
 have N2:=K2.below hb4 K2.lt
 have b6:=b5.trans (hb4.mono b5.size)
 have hW4:=hW3.then hb4
 clear hb4 K1 K2 b5 hW3
 rw [hrk]
 go_wp2_with fail
 refine (eH x l w.heap.size W4 N1 hW4 tl ol).mono ?_
 rintro e W9 ⟨v,rfl,⟨TA,tc,OA,oc,rfl,hT0,hO0⟩,hb9⟩
 have Q2:=N2.below hb9 N2.lt
 have b9:=b6.trans (hb9.mono b6.size)
 have hT3:=af hT0 b6.size
 have hO3:=af hO0 b6.size
 obtain ⟨z0,z1,z2,z3,z4,z5,z6,z7⟩:=cells8 Q2
 obtain ⟨f0,f1,f2,f3,f4,f5,f6,f7⟩:=frz8 Q2
 obtain ⟨hT4,hO4⟩:=dL (F TA x.c.t.length tc) (F OA x.c.o.length oc) (O U x.c.got) (O U x.c.sold) (O U x.c.missed) (sQ l.D) (sQ l.P) (O U l.n) Q2 hT3 hO3
 have bz:=Lib.hid (dN (g:=w.heap.size+1) (b9) hge (F TA x.c.t.length tc) (F OA x.c.o.length oc) (O U x.c.got) (O U x.c.sold) (O U x.c.missed) (sQ l.D) (sQ l.P) (O U l.n))
 have HT4:=Lib.hid hT4
 have HO4:=Lib.hid hO4
 clear N1 N2 Q2 b6 b9 hb9 hT0 hO0 hT3 hO3 hW4 hT4 hO4
 go_wp2_with fail
 refine bodyPost_ret (v:=.tuple #[.agg #[F TA x.c.t.length tc,F OA x.c.o.length oc,O U x.c.got,O U x.c.sold,O U x.c.missed,sQ l.D,sQ l.P,O U l.n],sQ ⟨#[98,97,100]⟩]) (by simp [results,Tryz.results16,go_sem, *]) rfl (bV.mk (by unfold gH; rw [if_pos hok,if_neg (by rw [hrk]; exact Bool.false_ne_true)]) (by unfold fC; rw [if_pos hok,if_neg (by rw [hrk]; exact Bool.false_ne_true)]) (by unfold gj; rw [if_pos hok,if_neg (by rw [hrk]; exact Bool.false_ne_true)]) ⟨TA,tc,OA,oc,rfl,HT4.out,HO4.out⟩ bz.out)
set_option maxRecDepth 100000 in
set_option maxHeartbeats 8000000 in
theorem oX (x:aM) (l:Lg) (line:ByteArray) (w:World) (h:aQ w w.heap.size x) (tl:x.t.length≤1048576) (ol:x.o.length≤1048576) (hs:l.D.size+l.P.size≤2000000) (hsl:line.size≤1048576) (hLW:LW w) (hok:dD x l=true) (hrk:da.ok ⟨line,⟨#[]⟩⟩=true) (hn:l.n=60) :
  Calls Tryz.prog 16 #[aL x l,sQ line] w (bV w x l line):=by
 have hne:(l.n == 60)=true:=by rw [hn]; rfl
 have HN:=Lib.hid hn
 clear hn
 have L1:=(ai.new w 42 #[F x.TA x.t.length x.tc,F x.OA x.o.length x.oc,O U x.got,O U x.sold,O U x.missed,sQ l.D,sQ l.P,O U l.n]).alloc (.cells #[F none 0 0,F none 0 0,O U 0,O U 0,O U 0,sQ ⟨#[]⟩,sQ ⟨#[]⟩,O U 0] 42)
 have L2:=ai.new1 w (.cells #[F x.TA x.t.length x.tc,F x.OA x.o.length x.oc,O U x.got,O U x.sold,O U x.missed,sQ l.D,sQ l.P,O U l.n] 42) 42 #[F none 0 0,F none 0 0,O U 0,O U 0,O U 0,sQ ⟨#[]⟩,sQ ⟨#[]⟩,O U 0]
 have b1:=(Below.refl w.heap.size w).alloc (Nat.le_refl _) (.cells #[F x.TA x.t.length x.tc,F x.OA x.o.length x.oc,O U x.got,O U x.sold,O U x.missed,sQ l.D,sQ l.P,O U l.n] 42)
 have b2:=b1.alloc b1.size (.cells #[F none 0 0,F none 0 0,O U 0,O U 0,O U 0,sQ ⟨#[]⟩,sQ ⟨#[]⟩,O U 0] 42)
 have hW:=h.up b2 (Nat.le_refl _)
 have hge:w.heap.size≤w.heap.size+1:=by omega
 clear b1 h
 go_enter Tryz.func16,Tryz.ntmps16
 go_wp2_with fail
 generalize ((w.alloc (.cells #[F x.TA x.t.length x.tc,F x.OA x.o.length x.oc,O U x.got,O U x.sold,O U x.missed,sQ l.D,sQ l.P,O U l.n] 42)).alloc (.cells #[F none 0 0,F none 0 0,O U 0,O U 0,O U 0,sQ ⟨#[]⟩,sQ ⟨#[]⟩,O U 0] 42))=W at L1 L2 b2 hW ⊢
 refine (dR x l W hW hs (hLW.then b2).tab).mono ?_
 rintro e W3 ⟨rfl,hb3⟩
 have K1:=L1.below hb3 L1.lt
 have K2:=L2.below hb3 L2.lt
 have b5:=b2.trans (hb3.mono b2.size)
 have hW3:=hW.then hb3
 clear hb3 L1 L2 b2 hW
 rw [hok]
 go_wp2_with fail
 refine (ew ⟨line,⟨#[]⟩⟩ W3 (Nat.le_trans hsl (by decide)) (show (0:Nat)≤1000000000 by omega)).mono ?_
 rintro e W4 ⟨rfl,hb4⟩
 have N1:=K1.below hb4 K1.lt
 have N2:=K2.below hb4 K2.lt
 have b6:=b5.trans (hb4.mono b5.size)
 have hW4:=hW3.then hb4
 clear hb4 K1 K2 b5 hW3
 rw [hrk]
 obtain ⟨c0,c1,c2,c3,c4,c5,c6,c7⟩:=cells8 N1
 go_wp2_with fail
 refine (eH x l w.heap.size W4 N1 hW4 tl ol).mono ?_
 clear c0 c1 c2 c3 c4 c5 c6 c7
 rintro e W9 ⟨v,rfl,⟨TA,tc,OA,oc,rfl,hT0,hO0⟩,hb9⟩
 have Q2:=N2.below hb9 N2.lt
 have b9:=b6.trans (hb9.mono b6.size)
 have hT3:=af hT0 b6.size
 have hO3:=af hO0 b6.size
 obtain ⟨z0,z1,z2,z3,z4,z5,z6,z7⟩:=cells8 Q2
 obtain ⟨f0,f1,f2,f3,f4,f5,f6,f7⟩:=frz8 Q2
 obtain ⟨hT4,hO4⟩:=dL (F TA x.c.t.length tc) (F OA x.c.o.length oc) (O U x.c.got) (O U x.c.sold) (O U x.c.missed) (sQ l.D) (sQ l.P) (O U l.n) Q2 hT3 hO3
 have bz:=Lib.hid (dN (g:=w.heap.size+1) (b9) hge (F TA x.c.t.length tc) (F OA x.c.o.length oc) (O U x.c.got) (O U x.c.sold) (O U x.c.missed) (sQ l.D) (sQ l.P) (O U l.n))
 have HT4:=Lib.hid hT4
 have HO4:=Lib.hid hO4
 clear N1 N2 Q2 b6 b9 hb9 hT0 hO0 hT3 hO3 hW4 hT4 hO4
 go_wp2_with fail
 refine bodyPost_ret (v:=.tuple #[.agg #[F TA x.c.t.length tc,F OA x.c.o.length oc,O U x.c.got,O U x.c.sold,O U x.c.missed,sQ l.D,sQ l.P,O U l.n],sQ ⟨#[102,117,108,108]⟩]) (by simp [results,Tryz.results16,go_sem, *]) rfl (bV.mk (by unfold gH; rw [if_pos hok,if_pos hrk,if_pos HN.out]) (by unfold fC; rw [if_pos hok,if_pos hrk,if_pos HN.out]) (by unfold gj; rw [if_pos hok,if_pos hrk,if_pos HN.out]) ⟨TA,tc,OA,oc,rfl,HT4.out,HO4.out⟩ bz.out)
set_option maxRecDepth 100000 in
set_option maxHeartbeats 8000000 in
theorem pZ (x:aM) (l:Lg) (line:ByteArray) (w:World) (h:aQ w w.heap.size x) (tl:x.t.length≤1048576) (ol:x.o.length≤1048576) (hs:l.D.size+l.P.size≤2000000) (hsl:line.size≤1048576) (hLW:LW w) (hok:dD x l=true) (hrk:da.ok ⟨line,⟨#[]⟩⟩=true) (hn : ¬ l.n=60) :
  Calls Tryz.prog 16 #[aL x l,sQ line] w (bV w x l line):=by
 have hne:(l.n == 60)=false:=beq_false_of_ne hn
 have G:=l5 hok
 have hl160:line.size≤1000:=by
  have h1:=(cP.1 hrk).2.1
  have h2:line.size≤160:=h1
  omega
 have HET:gH x l line=kA x line:=by unfold gH; rw [if_pos hok,if_pos hrk,if_neg hn]
 have HEO:fC x l line=oJ x line:=by unfold fC; rw [if_pos hok,if_pos hrk,if_neg hn]
 have HEL:gj x l line=fG l ⟨line,kA x line⟩:=by unfold gj; rw [if_pos hok,if_pos hrk,if_neg hn]
 obtain ⟨R,hR⟩ : ∃ R,gX x line=R:=⟨_,rfl⟩
 have HRT:kA x line=qr R:=by rw [← hR]; exact sn x line
 have HRO:oJ x line=eF x R:=by rw [← hR]; exact qs x line
 obtain ⟨rep,hrep⟩ : ∃ rep,kA x line=rep:=⟨_,rfl⟩
 have hrs:rep.size≤200:=by rw [← hrep,HRT]; exact pX R
 obtain ⟨l2,hl2⟩ : ∃ l2,fG l ⟨line,rep⟩=l2:=⟨_,rfl⟩
 have cA:=fun W hW=>l8 l ⟨line,rep⟩ W hs (Nat.le_trans hl160 (by decide)) (Nat.le_trans hrs (by decide)) hW
 rw [hrep] at HET HEL HRT
 rw [hl2] at cA HEL
 have ET:=Lib.hid HET
 rw [HRO] at HEO
 have EO0:=Lib.hid HEO
 have EL:=Lib.hid HEL
 have HC:=Lib.hid hR
 clear hn HET HEO HEL HRO hrep hl2 hR
 have L1:=(ai.new w 42 #[F x.TA x.t.length x.tc,F x.OA x.o.length x.oc,O U x.got,O U x.sold,O U x.missed,sQ l.D,sQ l.P,O U l.n]).alloc (.cells #[F none 0 0,F none 0 0,O U 0,O U 0,O U 0,sQ ⟨#[]⟩,sQ ⟨#[]⟩,O U 0] 42)
 have L2:=ai.new1 w (.cells #[F x.TA x.t.length x.tc,F x.OA x.o.length x.oc,O U x.got,O U x.sold,O U x.missed,sQ l.D,sQ l.P,O U l.n] 42) 42 #[F none 0 0,F none 0 0,O U 0,O U 0,O U 0,sQ ⟨#[]⟩,sQ ⟨#[]⟩,O U 0]
 have b1:=(Below.refl w.heap.size w).alloc (Nat.le_refl _) (.cells #[F x.TA x.t.length x.tc,F x.OA x.o.length x.oc,O U x.got,O U x.sold,O U x.missed,sQ l.D,sQ l.P,O U l.n] 42)
 have b2:=b1.alloc b1.size (.cells #[F none 0 0,F none 0 0,O U 0,O U 0,O U 0,sQ ⟨#[]⟩,sQ ⟨#[]⟩,O U 0] 42)
 have hW:=h.up b2 (Nat.le_refl _)
 have hge:w.heap.size≤w.heap.size+1:=by omega
 clear b1 h
 go_enter Tryz.func16,Tryz.ntmps16
 go_wp2_with fail
 generalize ((w.alloc (.cells #[F x.TA x.t.length x.tc,F x.OA x.o.length x.oc,O U x.got,O U x.sold,O U x.missed,sQ l.D,sQ l.P,O U l.n] 42)).alloc (.cells #[F none 0 0,F none 0 0,O U 0,O U 0,O U 0,sQ ⟨#[]⟩,sQ ⟨#[]⟩,O U 0] 42))=W at L1 L2 b2 hW ⊢
 refine (dR x l W hW hs (hLW.then b2).tab).mono ?_
 rintro e W3 ⟨rfl,hb3⟩
 have K1:=L1.below hb3 L1.lt
 have K2:=L2.below hb3 L2.lt
 have b5:=b2.trans (hb3.mono b2.size)
 have hW3:=hW.then hb3
 clear hb3 L1 L2 b2 hW
 rw [hok]
 go_wp2_with fail
 refine (ew ⟨line,⟨#[]⟩⟩ W3 (Nat.le_trans hsl (by decide)) (show (0:Nat)≤1000000000 by omega)).mono ?_
 rintro e W4 ⟨rfl,hb4⟩
 have N1:=K1.below hb4 K1.lt
 have N2:=K2.below hb4 K2.lt
 have b6:=b5.trans (hb4.mono b5.size)
 have hW4:=hW3.then hb4
 clear hb4 K1 K2 b5 hW3
 rw [hrk]
 obtain ⟨c0,c1,c2,c3,c4,c5,c6,c7⟩:=cells8 N1
 go_wp2_with fail
 refine (eH x l w.heap.size W4 N1 hW4 tl ol).mono ?_
 rintro e W5 ⟨v,rfl,⟨TA,tc,OA,oc,rfl,hT0,hO0⟩,hb5⟩
 clear c0 c1 c2 c3 c4 c5 c6 c7
 go_upto_region 8 with fail
 have hal:=(Below.refl W5.heap.size W5).alloc (Nat.le_refl _) (.cells #[F TA x.c.t.length tc,F OA x.c.o.length oc,O U x.c.got,O U x.c.sold,O U x.c.missed,sQ l.D,sQ l.P,O U l.n] 42)
 have hb6:=ar hb5 hal
 have J1:=N1.below hb6 N1.lt
 have J2:=N2.below hb6 N2.lt
 have J6:=ai.new W5 42 #[F TA x.c.t.length tc,F OA x.c.o.length oc,O U x.c.got,O U x.c.sold,O U x.c.missed,sQ l.D,sQ l.P,O U l.n]
 have b7:=b6.trans (hb6.mono b6.size)
 have hT1:=af (ab hT0 hal) b6.size
 have hO1:=af (ab hO0 hal) b6.size
 have hg26:w.heap.size+1 < W5.heap.size:=Nat.lt_of_lt_of_le N2.lt hb5.size
 clear hal hb6 hb5 hT0 hO0 N1 N2 b6 hW4
 generalize W5.alloc (.cells #[F TA x.c.t.length tc,F OA x.c.o.length oc,O U x.c.got,O U x.c.sold,O U x.c.missed,sQ l.D,sQ l.P,O U l.n] 42)=W6 at J1 J2 J6 b7 hT1 hO1 ⊢
 generalize W5.heap.size=g6 at J6 hg26 ⊢
 have hg6:w.heap.size≤g6:=by omega
 have hXc:(x.c.at TA tc OA oc).c=x.c:=rfl
 have hrun:=oW (x.c.at TA tc OA oc) l line g6 w W6 J6 hg6 b7 hT1 hO1 (good_c hXc G) hl160 hLW
 rw [rX hXc,HC.out] at hrun
 go_wp2_with fail
 refine hrun.mono ?_
 rintro e W7 hM
 clear hrun
 rcases hM with ⟨rfl,⟨s,rfl⟩,hb7⟩ | ⟨z,r,rfl,rfl,hCI,hb7,hs7,hk7⟩
 ·have K1:=J1.below hb7 J1.lt
  have K2:=J2.below hb7 J2.lt
  have K6:=J6.below hb7 J6.lt
  have b8:=b7.trans (hb7.mono b7.size)
  have hT8:=ab hT1 hb7
  have hO8:=ab hO1 hb7
  clear J1 J2 J6 b7 hT1 hO1 hb7
  have HEO0:=EO0.out
  change fC x l line=x.c at HEO0
  change rep=⟨#[63]⟩ at HRT
  subst HRT
  clear EO0
  obtain ⟨y,hy⟩ : ∃ y,x.c=y:=⟨_,rfl⟩
  rw [hy] at K6 hT8 hO8 HEO0
  have EO:=Lib.hid HEO0
  clear HEO0
  obtain ⟨TB,hTB0⟩ : ∃ TB,TA=TB:=⟨_,rfl⟩
  obtain ⟨tb,htb0⟩ : ∃ tb,tc=tb:=⟨_,rfl⟩
  obtain ⟨OB,hOB0⟩ : ∃ OB,OA=OB:=⟨_,rfl⟩
  obtain ⟨ob,hob0⟩ : ∃ ob,oc=ob:=⟨_,rfl⟩
  rw [hTB0,htb0,hOB0,hob0] at K6
  rw [hTB0,htb0] at hT8
  rw [hOB0,hob0] at hO8
  clear hy hTB0 htb0 hOB0 hob0 hXc
  obtain ⟨cod,hcod⟩ : ∃ cod,dS l ⟨line,⟨#[63]⟩⟩=cod:=⟨_,rfl⟩
  rw [hcod] at cA
  clear hcod
  have htW:=(hLW.then b8).tab
  obtain ⟨c0,c1,c2,c3,c4,c5,c6,c7⟩:=cells8 K1
  go_wp2_with fail
  refine (cA W7 htW).mono ?_
  rintro e W9 ⟨rfl,hb9⟩
  have Q1:=K1.below hb9 K1.lt
  have Q2:=K2.below hb9 K2.lt
  have Q6:=K6.below hb9 K6.lt
  have b10:=b8.trans (hb9.mono b8.size)
  have hTA:=ab hT8 hb9
  have hOA:=ab hO8 hb9
  have gr9:W9.grownBy (((W9.setCell ⟨g6,5,none⟩ (sQ l2.D)).setCell ⟨g6,6,none⟩ (sQ l2.P)).setCell ⟨g6,7,none⟩ (O U l2.n)) (some g6):=ac (g:=g6) (i:=7) (u:=O U l2.n) (ac (g:=g6) (i:=6) (u:=sQ l2.P) (ac (g:=g6) (i:=5) (u:=sQ l2.D) (World.grownBy.refl W9 (some g6))))
  have hTB:=aj hTA Q6 eN gr9
  have hOB:=aj hOA Q6 eQ gr9
  have R2:ai (((W9.setCell ⟨g6,5,none⟩ (sQ l2.D)).setCell ⟨g6,6,none⟩ (sQ l2.P)).setCell ⟨g6,7,none⟩ (O U l2.n)) (w.heap.size+1) 42 [F none 0 0,F none 0 0,O U 0,O U 0,O U 0,sQ ⟨#[]⟩,sQ ⟨#[]⟩,O U 0]:=(((Q2).other (p:=⟨g6,5,none⟩) (by simp only; omega) (sQ l2.D)).other (p:=⟨g6,6,none⟩) (by simp only; omega) (sQ l2.P)).other (p:=⟨g6,7,none⟩) (by simp only; omega) (O U l2.n)
  have R6:ai (((W9.setCell ⟨g6,5,none⟩ (sQ l2.D)).setCell ⟨g6,6,none⟩ (sQ l2.P)).setCell ⟨g6,7,none⟩ (O U l2.n)) g6 42 [F TB y.t.length tb,F OB y.o.length ob,O U y.got,O U y.sold,O U y.missed,sQ l2.D,sQ l2.P,O U l2.n]:=(((Q6).set 5 (sQ l2.D)).set 6 (sQ l2.P)).set 7 (O U l2.n)
  have b11:=(((b10).setCell (p:=⟨g6,5,none⟩) hg6 (sQ l2.D)).setCell (p:=⟨g6,6,none⟩) hg6 (sQ l2.P)).setCell (p:=⟨g6,7,none⟩) hg6 (O U l2.n)
  obtain ⟨z0,z1,z2,z3,z4,z5,z6,z7⟩:=cells8 Q6
  obtain ⟨f0,f1,f2,f3,f4,f5,f6,f7⟩:=frz8 Q6
  clear K1 K2 Q1 Q2 hb9 b8 b10 hTA hOA hT8 hO8 gr9 c0 c1 c2 c3 c4 c5 c6 c7
  go_upto_region 14 with fail
  clear K6 Q6 z0 z1 z2 z3 z4 z5 z6 z7 f0 f1 f2 f3 f4 f5 f6 f7
  generalize (((W9.setCell ⟨g6,5,none⟩ (sQ l2.D)).setCell ⟨g6,6,none⟩ (sQ l2.P)).setCell ⟨g6,7,none⟩ (O U l2.n))=WB at R2 R6 b11 hTB hOB ⊢
  obtain ⟨p0,p1,p2,p3,p4,p5,p6,p7⟩:=cells8 R6
  obtain ⟨z0,z1,z2,z3,z4,z5,z6,z7⟩:=cells8 R2
  obtain ⟨f0,f1,f2,f3,f4,f5,f6,f7⟩:=frz8 R2
  obtain ⟨hTC,hOC⟩:=dL (F TB y.t.length tb) (F OB y.o.length ob) (O U y.got) (O U y.sold) (O U y.missed) (sQ l2.D) (sQ l2.P) (O U l2.n) R2 hTB hOB
  have bz:=Lib.hid (dN (g:=w.heap.size+1) (b11) hge (F TB y.t.length tb) (F OB y.o.length ob) (O U y.got) (O U y.sold) (O U y.missed) (sQ l2.D) (sQ l2.P) (O U l2.n))
  have HTC:=Lib.hid hTC
  have HOC:=Lib.hid hOC
  clear R2 R6 b11 hTB hOB hTC hOC
  go_wp2_with fail
  refine bodyPost_ret (v:=.tuple #[.agg #[F TB y.t.length tb,F OB y.o.length ob,O U y.got,O U y.sold,O U y.missed,sQ l2.D,sQ l2.P,O U l2.n],sQ ⟨#[63]⟩]) (by simp [results,Tryz.results16,go_sem, *]) rfl (bV.mk ET.out EO.out EL.out ⟨TB,tb,OB,ob,rfl,HTC.out,HOC.out⟩ bz.out)
 ·obtain ⟨TB,tb,OB,ob,K6,hT8,hO8⟩:=hCI
  have K1:=mh hk7 J1 (by omega)
  have K2:=mh hk7 J2 (by omega)
  have b8:=b7.trans hb7
  clear J1 J2 J6 b7 hT1 hO1 hb7 hk7
  have HEO0:=EO0.out
  change fC x l line=z at HEO0
  change rep=(if 200 < r.size then ⟨#[108,111,110,103]⟩ else r) at HRT
  clear EO0
  obtain ⟨y,hy⟩ : ∃ y,z=y:=⟨_,rfl⟩
  rw [hy] at K6 hT8 hO8 HEO0
  have EO:=Lib.hid HEO0
  clear hy hXc HEO0
  by_cases hlong:200 < r.size
  ·have hlg:(200:Int) < (r.size:Int):=by omega
   rw [if_pos hlong] at HRT
   subst HRT
   obtain ⟨cod,hcod⟩ : ∃ cod,dS l ⟨line,⟨#[108,111,110,103]⟩⟩=cod:=⟨_,rfl⟩
   rw [hcod] at cA
   clear hcod
   have htW:=(hLW.then b8).tab
   obtain ⟨c0,c1,c2,c3,c4,c5,c6,c7⟩:=cells8 K1
   go_wp2_with fail
   refine (cA W7 htW).mono ?_
   rintro e W9 ⟨rfl,hb9⟩
   have Q1:=K1.below hb9 K1.lt
   have Q2:=K2.below hb9 K2.lt
   have Q6:=K6.below hb9 K6.lt
   have b10:=b8.trans (hb9.mono b8.size)
   have hTA:=ab hT8 hb9
   have hOA:=ab hO8 hb9
   have gr9:W9.grownBy (((W9.setCell ⟨g6,5,none⟩ (sQ l2.D)).setCell ⟨g6,6,none⟩ (sQ l2.P)).setCell ⟨g6,7,none⟩ (O U l2.n)) (some g6):=ac (g:=g6) (i:=7) (u:=O U l2.n) (ac (g:=g6) (i:=6) (u:=sQ l2.P) (ac (g:=g6) (i:=5) (u:=sQ l2.D) (World.grownBy.refl W9 (some g6))))
   have hTB:=aj hTA Q6 eN gr9
   have hOB:=aj hOA Q6 eQ gr9
   have R2:ai (((W9.setCell ⟨g6,5,none⟩ (sQ l2.D)).setCell ⟨g6,6,none⟩ (sQ l2.P)).setCell ⟨g6,7,none⟩ (O U l2.n)) (w.heap.size+1) 42 [F none 0 0,F none 0 0,O U 0,O U 0,O U 0,sQ ⟨#[]⟩,sQ ⟨#[]⟩,O U 0]:=(((Q2).other (p:=⟨g6,5,none⟩) (by simp only; omega) (sQ l2.D)).other (p:=⟨g6,6,none⟩) (by simp only; omega) (sQ l2.P)).other (p:=⟨g6,7,none⟩) (by simp only; omega) (O U l2.n)
   have R6:ai (((W9.setCell ⟨g6,5,none⟩ (sQ l2.D)).setCell ⟨g6,6,none⟩ (sQ l2.P)).setCell ⟨g6,7,none⟩ (O U l2.n)) g6 42 [F TB y.t.length tb,F OB y.o.length ob,O U y.got,O U y.sold,O U y.missed,sQ l2.D,sQ l2.P,O U l2.n]:=(((Q6).set 5 (sQ l2.D)).set 6 (sQ l2.P)).set 7 (O U l2.n)
   have b11:=(((b10).setCell (p:=⟨g6,5,none⟩) hg6 (sQ l2.D)).setCell (p:=⟨g6,6,none⟩) hg6 (sQ l2.P)).setCell (p:=⟨g6,7,none⟩) hg6 (O U l2.n)
   obtain ⟨z0,z1,z2,z3,z4,z5,z6,z7⟩:=cells8 Q6
   obtain ⟨f0,f1,f2,f3,f4,f5,f6,f7⟩:=frz8 Q6
   clear K1 K2 Q1 Q2 hb9 b8 b10 hTA hOA hT8 hO8 gr9 c0 c1 c2 c3 c4 c5 c6 c7
   go_upto_region 14 with fail
   clear K6 Q6 z0 z1 z2 z3 z4 z5 z6 z7 f0 f1 f2 f3 f4 f5 f6 f7
   generalize (((W9.setCell ⟨g6,5,none⟩ (sQ l2.D)).setCell ⟨g6,6,none⟩ (sQ l2.P)).setCell ⟨g6,7,none⟩ (O U l2.n))=WB at R2 R6 b11 hTB hOB ⊢
   obtain ⟨p0,p1,p2,p3,p4,p5,p6,p7⟩:=cells8 R6
   obtain ⟨z0,z1,z2,z3,z4,z5,z6,z7⟩:=cells8 R2
   obtain ⟨f0,f1,f2,f3,f4,f5,f6,f7⟩:=frz8 R2
   obtain ⟨hTC,hOC⟩:=dL (F TB y.t.length tb) (F OB y.o.length ob) (O U y.got) (O U y.sold) (O U y.missed) (sQ l2.D) (sQ l2.P) (O U l2.n) R2 hTB hOB
   have bz:=Lib.hid (dN (g:=w.heap.size+1) (b11) hge (F TB y.t.length tb) (F OB y.o.length ob) (O U y.got) (O U y.sold) (O U y.missed) (sQ l2.D) (sQ l2.P) (O U l2.n))
   have HTC:=Lib.hid hTC
   have HOC:=Lib.hid hOC
   clear R2 R6 b11 hTB hOB hTC hOC
   go_wp2_with fail
   refine bodyPost_ret (v:=.tuple #[.agg #[F TB y.t.length tb,F OB y.o.length ob,O U y.got,O U y.sold,O U y.missed,sQ l2.D,sQ l2.P,O U l2.n],sQ ⟨#[108,111,110,103]⟩]) (by simp [results,Tryz.results16,go_sem, *]) rfl (bV.mk ET.out EO.out EL.out ⟨TB,tb,OB,ob,rfl,HTC.out,HOC.out⟩ bz.out)
  ·have hlg : ¬ (200:Int) < (r.size:Int):=by omega
   rw [if_neg hlong] at HRT
   subst HRT
   obtain ⟨cod,hcod⟩ : ∃ cod,dS l ⟨line,rep⟩=cod:=⟨_,rfl⟩
   rw [hcod] at cA
   clear hcod
   have htW:=(hLW.then b8).tab
   obtain ⟨c0,c1,c2,c3,c4,c5,c6,c7⟩:=cells8 K1
   go_wp2_with fail
   refine (cA W7 htW).mono ?_
   rintro e W9 ⟨rfl,hb9⟩
   have Q1:=K1.below hb9 K1.lt
   have Q2:=K2.below hb9 K2.lt
   have Q6:=K6.below hb9 K6.lt
   have b10:=b8.trans (hb9.mono b8.size)
   have hTA:=ab hT8 hb9
   have hOA:=ab hO8 hb9
   have gr9:W9.grownBy (((W9.setCell ⟨g6,5,none⟩ (sQ l2.D)).setCell ⟨g6,6,none⟩ (sQ l2.P)).setCell ⟨g6,7,none⟩ (O U l2.n)) (some g6):=ac (g:=g6) (i:=7) (u:=O U l2.n) (ac (g:=g6) (i:=6) (u:=sQ l2.P) (ac (g:=g6) (i:=5) (u:=sQ l2.D) (World.grownBy.refl W9 (some g6))))
   have hTB:=aj hTA Q6 eN gr9
   have hOB:=aj hOA Q6 eQ gr9
   have R2:ai (((W9.setCell ⟨g6,5,none⟩ (sQ l2.D)).setCell ⟨g6,6,none⟩ (sQ l2.P)).setCell ⟨g6,7,none⟩ (O U l2.n)) (w.heap.size+1) 42 [F none 0 0,F none 0 0,O U 0,O U 0,O U 0,sQ ⟨#[]⟩,sQ ⟨#[]⟩,O U 0]:=(((Q2).other (p:=⟨g6,5,none⟩) (by simp only; omega) (sQ l2.D)).other (p:=⟨g6,6,none⟩) (by simp only; omega) (sQ l2.P)).other (p:=⟨g6,7,none⟩) (by simp only; omega) (O U l2.n)
   have R6:ai (((W9.setCell ⟨g6,5,none⟩ (sQ l2.D)).setCell ⟨g6,6,none⟩ (sQ l2.P)).setCell ⟨g6,7,none⟩ (O U l2.n)) g6 42 [F TB y.t.length tb,F OB y.o.length ob,O U y.got,O U y.sold,O U y.missed,sQ l2.D,sQ l2.P,O U l2.n]:=(((Q6).set 5 (sQ l2.D)).set 6 (sQ l2.P)).set 7 (O U l2.n)
   have b11:=(((b10).setCell (p:=⟨g6,5,none⟩) hg6 (sQ l2.D)).setCell (p:=⟨g6,6,none⟩) hg6 (sQ l2.P)).setCell (p:=⟨g6,7,none⟩) hg6 (O U l2.n)
   obtain ⟨z0,z1,z2,z3,z4,z5,z6,z7⟩:=cells8 Q6
   obtain ⟨f0,f1,f2,f3,f4,f5,f6,f7⟩:=frz8 Q6
   clear K1 K2 Q1 Q2 hb9 b8 b10 hTA hOA hT8 hO8 gr9 c0 c1 c2 c3 c4 c5 c6 c7
   go_upto_region 14 with fail
   clear K6 Q6 z0 z1 z2 z3 z4 z5 z6 z7 f0 f1 f2 f3 f4 f5 f6 f7
   generalize (((W9.setCell ⟨g6,5,none⟩ (sQ l2.D)).setCell ⟨g6,6,none⟩ (sQ l2.P)).setCell ⟨g6,7,none⟩ (O U l2.n))=WB at R2 R6 b11 hTB hOB ⊢
   obtain ⟨p0,p1,p2,p3,p4,p5,p6,p7⟩:=cells8 R6
   obtain ⟨z0,z1,z2,z3,z4,z5,z6,z7⟩:=cells8 R2
   obtain ⟨f0,f1,f2,f3,f4,f5,f6,f7⟩:=frz8 R2
   obtain ⟨hTC,hOC⟩:=dL (F TB y.t.length tb) (F OB y.o.length ob) (O U y.got) (O U y.sold) (O U y.missed) (sQ l2.D) (sQ l2.P) (O U l2.n) R2 hTB hOB
   have bz:=Lib.hid (dN (g:=w.heap.size+1) (b11) hge (F TB y.t.length tb) (F OB y.o.length ob) (O U y.got) (O U y.sold) (O U y.missed) (sQ l2.D) (sQ l2.P) (O U l2.n))
   have HTC:=Lib.hid hTC
   have HOC:=Lib.hid hOC
   clear R2 R6 b11 hTB hOB hTC hOC
   go_wp2_with fail
   refine bodyPost_ret (v:=.tuple #[.agg #[F TB y.t.length tb,F OB y.o.length ob,O U y.got,O U y.sold,O U y.missed,sQ l2.D,sQ l2.P,O U l2.n],sQ rep]) (by simp [results,Tryz.results16,go_sem, *]) rfl (bV.mk ET.out EO.out EL.out ⟨TB,tb,OB,ob,rfl,HTC.out,HOC.out⟩ bz.out)
theorem p8 (x:aM) (l:Lg) (line:ByteArray) (w:World) (h:aQ w w.heap.size x) (tl:x.t.length≤1048576) (ol:x.o.length≤1048576) (hs:l.D.size+l.P.size≤2000000) (hsl:line.size≤1048576) (hLW:LW w) :
  Calls Tryz.prog 16 #[aL x l,sQ line] w (bV w x l line):=by
 cases hok:dD x l
 ·exact rq x l line w h tl ol hs hsl hLW hok
 ·cases hrk:da.ok ⟨line,⟨#[]⟩⟩
  ·exact pY x l line w h tl ol hs hsl hLW hok hrk
  ·by_cases hn:l.n=60
   ·exact oX x l line w h tl ol hs hsl hLW hok hrk hn
   ·exact pZ x l line w h tl ol hs hsl hLW hok hrk hn
theorem p9 {n k:Nat} {c r:List UInt8} (h:fF c r=true):aT (n+1) k (co k c r) = [((c,r),(co k c r).length)]:=by
 have hb:dt 10 (co k c r)=dO (eW k c r):=by unfold co; exact eV (sc h)
 have h1:(10:UInt8) ∈ co k c r:=by unfold co; simp
 have hl:(dO (eW k c r)).length+1=(co k c r).length:=by unfold co; simp
 rw [dz h1 (by rw [hb]; exact ka ⟨h,rfl⟩),hb,hl,List.drop_eq_nil_of_le (Nat.le_refl _),dU (by simp)]
theorem mV {c r:List UInt8} (h:fF c r=true):∀ (n k:Nat) (s:List UInt8),dy (aT n k s)=s.length→(aT n k s).length < n →
  aT n k (s++co (k+(aT n k s).length) c r)=aT n k s++[((c,r),(co (k+(aT n k s).length) c r).length)]
 | 0,_,_,_,h2=>absurd h2 (by omega)
 | n+1,k,s,h1,h2=>by
  by_cases hs:(10:UInt8) ∈ s
  ·cases hd:dx k (dt 10 s) with
   | none =>
    rw [ee hd] at h1
    have:s = []:=List.eq_nil_of_length_eq_zero (by rw [← h1]; simp [dy])
    rw [this] at hs; cases hs
   | some e =>
    have e1:=df hs
    have hlen:(dt 10 s).length+1≤s.length:=by have:=congrArg List.length e1; simp at this; omega
    have ey:=dz (n:=n) hs hd
    rw [ey,fO] at h1
    rw [ey,List.length_cons] at h2
    have ih:=mV h n (k+1) (s.drop ((dt 10 s).length+1)) (by rw [List.length_drop]; simp only at h1; omega) (by omega)
    have hk:k+(aT (n+1) k s).length=k+1+(aT n (k+1) (s.drop ((dt 10 s).length+1))).length:=by rw [ey,List.length_cons]; omega
    rw [hk]
    generalize co (k+1+(aT n (k+1) (s.drop ((dt 10 s).length+1))).length) c r=x at ih ⊢
    have hb:dt 10 (s++x)=dt 10 s:=by
     rw (occs:=[1]) [e1]
     rw [List.append_assoc,List.cons_append]; exact eV (fH 10 s)
    rw [dz (by simp [hs]) (by rw [hb]; exact hd),hb,List.drop_append_of_le_length hlen,ih,ey]
    rfl
  ·have hn:aT (n+1) k s = []:=dU hs
   rw [hn] at h1
   have:s = []:=List.eq_nil_of_length_eq_zero (by rw [← h1]; simp [dy])
   subst this
   rw [hn]
   simp only [List.length_nil,Nat.add_zero,List.nil_append]
   exact p9 h
noncomputable def so (y:Oc) (l:Lg) (t:ByteArray):Oc:=fC y.off l t
noncomputable def sq (y:Oc) (l:Lg) (t:ByteArray):Lg:=gj y.off l t
noncomputable def ss (y:Oc) (l:Lg) (t:ByteArray):ByteArray:=gH y.off l t
noncomputable def qt (y:Oc) (l:Lg):Bool:=dD y.off l
theorem qu (x:aM) (l:Lg) (t:ByteArray):fC x l t=so x.c l t:=by cases x; rfl
theorem qv (x:aM) (l:Lg) (t:ByteArray):gj x l t=sq x.c l t:=by cases x; rfl
theorem qw (x:aM) (l:Lg) (t:ByteArray):gH x l t=ss x.c l t:=by cases x; rfl
theorem r3 {l:Lg} {e:da} (hl:l.ok=true):(fG l e).ok=true:=by
 cases hr:e.ok with
 | false=>rw [(l6 (by rw [hl,hr]; rfl)).1]; exact hl
 | true =>
  by_cases hn:l.n=60
  ·rw [(jv (by rw [hl,hr]; rfl) hn).1]; exact hl
  ·obtain ⟨e1, -⟩:=ky (show (l.ok && e.ok)=true by rw [hl,hr]; rfl) hn
   have hr:fF (bl e.c) (bl e.r)=true:=hr
   obtain ⟨q1,q2,q3⟩:=dA.1 hl
   have hle:=dh 60 0 (bl l.D++bl l.P)
   have hlen:(aT 60 0 (bl l.D++bl l.P)).length < 60:=by omega
   have hnn:l.n.toNat=(aT 60 0 (bl l.D++bl l.P)).length:=by omega
   have ha:=mV hr 60 0 (bl l.D++bl l.P) (by rw [q1,List.length_append]) hlen
   rw [Nat.zero_add] at ha
   obtain ⟨lb,hlb⟩ : ∃ lb:ByteArray,lb=⟨(co l.n.toNat (bl e.c) (bl e.r)).toArray⟩:=⟨_,rfl⟩
   rw [← hlb] at e1
   rw [e1]
   have hbl:bl lb=co (aT 60 0 (bl l.D++bl l.P)).length (bl e.c) (bl e.r):=by rw [hlb,bM (co l.n.toNat (bl e.c) (bl e.r)),hnn]
   clear hlb
   have eP:bl (l.P++lb)=bl l.P++co (aT 60 0 (bl l.D++bl l.P)).length (bl e.c) (bl e.r):=by rw [du l.P lb,hbl]
   generalize hln:co (aT 60 0 (bl l.D++bl l.P)).length (bl e.c) (bl e.r)=ln at ha eP hbl
   have hap:aT 60 0 (bl l.D++bl (l.P++lb))=aT 60 0 (bl l.D++bl l.P)++[((bl e.c,bl e.r),ln.length)]:=by
    rw [eP,← List.append_assoc]; exact ha
   have hlens:dy (aT 60 0 (bl l.D++bl l.P)++[((bl e.c,bl e.r),ln.length)])=(bl l.D).length+((bl l.P).length+ln.length):=by
    have:dy (aT 60 0 (bl l.D++bl l.P)++[((bl e.c,bl e.r),ln.length)])=dy (aT 60 0 (bl l.D++bl l.P))+ln.length:=by simp [dy]
    omega
   unfold Lg.ok
   rw [dA]
   simp only
   rw [hap]
   exact ⟨by rw [hlens,eP,List.length_append],q2,by rw [List.length_append,List.length_singleton]; omega⟩
theorem lz {y:Oc} {l:Lg} : qt y l=true ↔ y.good=true∧l.ok=true:=by
 unfold qt dD
 rw [Bool.and_eq_true]
 exact Iff.rfl
theorem qx {y:Oc} {l:Lg} (t:ByteArray) (h:qt y l=true):qt (so y l t) (sq y l t)=true:=by
 obtain ⟨h1,h2⟩:=lz.1 h
 have h1' : (y.off).c.good=true:=h1
 refine lz.2 ⟨?_, ?_⟩
 ·unfold so fC
  split
  ·split
   ·split
    ·exact h1
    ·rw [qs]; exact mT h1' t
   ·exact h1
  ·exact h1
 ·unfold sq gj
  split
  ·split
   ·split
    ·exact h2
    ·exact r3 h2
   ·exact h2
  ·exact h2
theorem mW {y:Oc} {l:Lg} (h:qt y l=true):y.t.length≤1048576∧y.o.length≤1048576∧l.D.size+l.P.size≤2000000:=by
 obtain ⟨h1,h2⟩:=lz.1 h
 have G:=kn h1
 have hs:=gA (dA.1 h2).1
 rw [ap,ap] at hs
 omega
def oY (w:World) (y:Oc) (b:Bool) (e:Ending) (w' : World):Prop :=
 ∃ TA tc OA oc,e=.returned (.tuple #[.agg #[F TA y.t.length tc,F OA y.o.length oc,O U y.got,O U y.sold,O U y.missed,sQ ⟨#[]⟩,sQ ⟨#[]⟩,O U 0],.bool b])∧w'.ownsRow w.heap.size 104 2 (F TA y.t.length tc) y.t.length (y.t.flatMap aq.enc) ∧
  w'.ownsRow w.heap.size 147 3 (F OA y.o.length oc) y.o.length (y.o.flatMap ae.enc)∧Below w.heap.size w w'
def eU (n:Int):Oc:=if bI n 1 9999 then ⟨[⟨1,n⟩],[],n,0,0⟩ else Oc.zero
theorem fD:104 ≠ 42:=by decide
theorem j0:147 ≠ 42:=by decide
theorem mX (n:Int):fL Oc.zero ⟨1,1,0,n⟩=if bI n 1 9999 then some ⟨[⟨1,n⟩],[],n,0,0⟩ else none:=by
 have h0:Oc.zero.good=true:=by decide
 unfold fL
 rw [h0,Bool.true_and]
 have hok:dH.ok ⟨1,1,0,n⟩=bI n 1 9999:=by
  unfold dH.ok; simp [bI]
 rw [hok]
 cases hn:bI n 1 9999
 ·rfl
 ·rw [if_pos rfl,if_pos rfl]
  have hb:=bH.1 hn
  have hin:ah [] 1 n = [⟨1,n⟩]:=by
   unfold ah; simp [av,bg,cw]
  unfold aZ
  rw [if_pos rfl]
  simp only [Oc.zero,hin]
  unfold Oc.fin
  rw [if_pos ?_]
  ·simp
  ·unfold Oc.good am
   simp [Oc.at,eh,gJ,jF,bW,aS,fj,bj,ef,ck,dV,cR,aq.ok,bI]
   omega
set_option maxHeartbeats 1000000 in
theorem oZ (n:Int) (w:World):Calls Tryz.prog 36 #[O U n] w (oY w (eU n) (bI n 1 9999)):=by
 have L0:=ai.new w 42 #[F none 0 0,F none 0 0,O U 0,O U 0,O U 0,sQ ⟨#[]⟩,sQ ⟨#[]⟩,O U 0]
 have b0:=(Below.refl w.heap.size w).alloc (Nat.le_refl _) (.cells #[F none 0 0,F none 0 0,O U 0,O U 0,O U 0,sQ ⟨#[]⟩,sQ ⟨#[]⟩,O U 0] 42)
 have h0:w.heap.size < (w.alloc (.cells #[F none 0 0,F none 0 0,O U 0,O U 0,O U 0,sQ ⟨#[]⟩,sQ ⟨#[]⟩,O U 0] 42)).heap.size:=by simp
 cases hn:bI n 1 9999
 ·rw [show eU n=Oc.zero from by unfold eU; rw [hn]; rfl]
  go_enter Tryz.func36,Tryz.ntmps36
  go_wp2_with fail
  generalize w.alloc (.cells #[F none 0 0,F none 0 0,O U 0,O U 0,O U 0,sQ ⟨#[]⟩,sQ ⟨#[]⟩,O U 0] 42)=W at L0 b0 h0 ⊢
  refine (aI n 1 9999 _).mono ?_
  rintro e w' ⟨rfl,rfl⟩
  rw [hn]
  obtain ⟨z0,z1,z2,z3,z4,z5,z6,z7⟩:=cells8 L0
  obtain ⟨f0,f1,f2,f3,f4,f5,f6,f7⟩:=frz8 L0
  have bz:=Lib.hid ((((((((b0.setCell (p:=⟨w.heap.size,0,none⟩) (Nat.le_refl _) (F none 0 0)).setCell (p:=⟨w.heap.size,1,none⟩) (Nat.le_refl _) (F none 0 0)).setCell (p:=⟨w.heap.size,2,none⟩) (Nat.le_refl _) (O U 0)).setCell (p:=⟨w.heap.size,3,none⟩) (Nat.le_refl _) (O U 0)).setCell (p:=⟨w.heap.size,4,none⟩) (Nat.le_refl _) (O U 0)).setCell (p:=⟨w.heap.size,5,none⟩) (Nat.le_refl _) (sQ ⟨#[]⟩)).setCell (p:=⟨w.heap.size,6,none⟩) (Nat.le_refl _) (sQ ⟨#[]⟩)).setCell (p:=⟨w.heap.size,7,none⟩) (Nat.le_refl _) (O U 0))
  clear L0 b0
  go_wp2
  refine bodyPost_ret (v:=.tuple #[.agg #[F none 0 0,F none 0 0,O U 0,O U 0,O U 0,sQ ⟨#[]⟩,sQ ⟨#[]⟩,O U 0],.bool false]) (by simp [results,Tryz.results36,go_sem, *]) rfl ?_
  exact ⟨none,0,none,0,rfl,World.ownsRow_nil _ _ _ _,World.ownsRow_nil _ _ _ _,bz.out⟩
 ·rw [show eU n=⟨[⟨1,n⟩],[],n,0,0⟩ from by unfold eU; rw [hn]; rfl]
  go_enter Tryz.func36,Tryz.ntmps36
  go_wp2_with fail
  generalize w.alloc (.cells #[F none 0 0,F none 0 0,O U 0,O U 0,O U 0,sQ ⟨#[]⟩,sQ ⟨#[]⟩,O U 0] 42)=W at L0 b0 h0 ⊢
  refine (aI n 1 9999 _).mono ?_
  rintro e w' ⟨rfl,rfl⟩
  rw [hn]
  have hal:=(Below.refl W.heap.size W).alloc (Nat.le_refl _) (.cells #[O U 1,O U n] 104)
  have L1:=L0.below hal L0.lt
  have ho:=World.ownsRow_lit (base:=w.heap.size) (e:=104) (size:=2) W #[O U 1,O U n] 1 b0.size (by decide) rfl
  have b1:=b0.trans (hal.mono b0.size)
  obtain ⟨W2,hW2⟩ : ∃ W2,W.alloc (.cells #[O U 1,O U n] 104)=W2:=⟨_,rfl⟩
  rw [hW2] at L1 ho b1
  generalize hg:W.heap.size=g at ho
  obtain ⟨z0,z1,z2,z3,z4,z5,z6,z7⟩:=cells8 L1
  obtain ⟨f0,f1,f2,f3,f4,f5,f6,f7⟩:=frz8 L1
  have bz:=Lib.hid ((((((((b1.setCell (p:=⟨w.heap.size,0,none⟩) (Nat.le_refl _) (F (some ⟨g,0,none⟩) 1 1)).setCell (p:=⟨w.heap.size,1,none⟩) (Nat.le_refl _) (F none 0 0)).setCell (p:=⟨w.heap.size,2,none⟩) (Nat.le_refl _) (O U n)).setCell (p:=⟨w.heap.size,3,none⟩) (Nat.le_refl _) (O U 0)).setCell (p:=⟨w.heap.size,4,none⟩) (Nat.le_refl _) (O U 0)).setCell (p:=⟨w.heap.size,5,none⟩) (Nat.le_refl _) (sQ ⟨#[]⟩)).setCell (p:=⟨w.heap.size,6,none⟩) (Nat.le_refl _) (sQ ⟨#[]⟩)).setCell (p:=⟨w.heap.size,7,none⟩) (Nat.le_refl _) (O U 0))
  have hT:=Lib.hid (al (al (al (al (al (al (al (al ho L1 fD 0 (F (some ⟨g,0,none⟩) 1 1)) (L1.set 0 (F (some ⟨g,0,none⟩) 1 1)) fD 1 (F none 0 0)) ((L1.set 0 (F (some ⟨g,0,none⟩) 1 1)).set 1 (F none 0 0)) fD 2 (O U n)) (((L1.set 0 (F (some ⟨g,0,none⟩) 1 1)).set 1 (F none 0 0)).set 2 (O U n)) fD 3 (O U 0)) ((((L1.set 0 (F (some ⟨g,0,none⟩) 1 1)).set 1 (F none 0 0)).set 2 (O U n)).set 3 (O U 0)) fD 4 (O U 0)) (((((L1.set 0 (F (some ⟨g,0,none⟩) 1 1)).set 1 (F none 0 0)).set 2 (O U n)).set 3 (O U 0)).set 4 (O U 0)) fD 5 (sQ ⟨#[]⟩)) ((((((L1.set 0 (F (some ⟨g,0,none⟩) 1 1)).set 1 (F none 0 0)).set 2 (O U n)).set 3 (O U 0)).set 4 (O U 0)).set 5 (sQ ⟨#[]⟩)) fD 6 (sQ ⟨#[]⟩)) (((((((L1.set 0 (F (some ⟨g,0,none⟩) 1 1)).set 1 (F none 0 0)).set 2 (O U n)).set 3 (O U 0)).set 4 (O U 0)).set 5 (sQ ⟨#[]⟩)).set 6 (sQ ⟨#[]⟩)) fD 7 (O U 0))
  clear L0 b0 L1 b1 hal ho h0
  go_wp2_with (rw [hW2]; clear hW2; rw [hg])
  refine bodyPost_ret (v:=.tuple #[.agg #[F (some ⟨g,0,none⟩) 1 1,F none 0 0,O U n,O U 0,O U 0,sQ ⟨#[]⟩,sQ ⟨#[]⟩,O U 0],.bool true]) (by simp [results,Tryz.results36,go_sem, *]) rfl ?_
  exact ⟨some ⟨g,0,none⟩,1,none,0,rfl,hT.out,World.ownsRow_nil _ _ _ _,bz.out⟩
set_option maxHeartbeats 1000000 in
theorem o4 (n:Int) (w:World):Calls Tryz.prog 37 #[O U n] w (oY w (eU n) (bI n 1 9999)):=by
 have L0:=ai.new w 42 #[F none 0 0,F none 0 0,O U 0,O U 0,O U 0,sQ ⟨#[]⟩,sQ ⟨#[]⟩,O U 0]
 have b0:=(Below.refl w.heap.size w).alloc (Nat.le_refl _) (.cells #[F none 0 0,F none 0 0,O U 0,O U 0,O U 0,sQ ⟨#[]⟩,sQ ⟨#[]⟩,O U 0] 42)
 have cS:=fun W=>jR (Oc.zero.at none 0 none 0) ⟨1,1,0,n⟩ W ⟨br.nil _ _ _ _,br.nil _ _ _ _⟩ (Nat.le_refl _)
 have hD:=mX n
 unfold fL at hD
 simp only [show (Oc.zero.at none 0 none 0).c=Oc.zero from rfl,show am (Oc.zero.at none 0 none 0)=Oc.zero.good from rfl,hD] at cS
 clear hD
 cases hn:bI n 1 9999
 ·rw [show eU n=Oc.zero from by unfold eU; rw [hn]; rfl]
  rw [hn] at cS
  go_enter Tryz.func37,Tryz.ntmps37
  go_wp2_with fail
  generalize w.alloc (.cells #[F none 0 0,F none 0 0,O U 0,O U 0,O U 0,sQ ⟨#[]⟩,sQ ⟨#[]⟩,O U 0] 42)=W at L0 b0 ⊢
  refine (cS W).mono ?_
  rintro e W1 ⟨TA,tc,OA,oc,rfl,hT,hO,hb1⟩
  simp only [Bool.false_eq_true,if_false,cj,Option.getD_none,Option.isSome_none,Oc.at,aM.val,Oc.zero,List.length_nil]
  have hal:=(Below.refl W1.heap.size W1).alloc (Nat.le_refl _) (.cells #[F TA 0 tc,F OA 0 oc,O U 0,O U 0,O U 0] 40)
  have b1:=b0.trans ((ar hb1 hal).mono b0.size)
  have L1:=(L0.below hb1 L0.lt).below hal (Nat.lt_of_lt_of_le L0.lt hb1.size)
  clear hal hb1 b0 L0 hT hO
  obtain ⟨z0,z1,z2,z3,z4,z5,z6,z7⟩:=cells8 L1
  obtain ⟨f0,f1,f2,f3,f4,f5,f6,f7⟩:=frz8 L1
  have bz:=Lib.hid ((((((((b1.setCell (p:=⟨w.heap.size,0,none⟩) (Nat.le_refl _) (F none 0 0)).setCell (p:=⟨w.heap.size,1,none⟩) (Nat.le_refl _) (F none 0 0)).setCell (p:=⟨w.heap.size,2,none⟩) (Nat.le_refl _) (O U 0)).setCell (p:=⟨w.heap.size,3,none⟩) (Nat.le_refl _) (O U 0)).setCell (p:=⟨w.heap.size,4,none⟩) (Nat.le_refl _) (O U 0)).setCell (p:=⟨w.heap.size,5,none⟩) (Nat.le_refl _) (sQ ⟨#[]⟩)).setCell (p:=⟨w.heap.size,6,none⟩) (Nat.le_refl _) (sQ ⟨#[]⟩)).setCell (p:=⟨w.heap.size,7,none⟩) (Nat.le_refl _) (O U 0))
  clear L1 b1
  go_wp2
  refine bodyPost_ret (v:=.tuple #[.agg #[F none 0 0,F none 0 0,O U 0,O U 0,O U 0,sQ ⟨#[]⟩,sQ ⟨#[]⟩,O U 0],.bool false]) (by simp [results,Tryz.results37,go_sem, *]) rfl ?_
  exact ⟨none,0,none,0,rfl,World.ownsRow_nil _ _ _ _,World.ownsRow_nil _ _ _ _,bz.out⟩
 ·rw [show eU n=⟨[⟨1,n⟩],[],n,0,0⟩ from by unfold eU; rw [hn]; rfl]
  rw [hn] at cS
  go_enter Tryz.func37,Tryz.ntmps37
  go_wp2_with fail
  generalize w.alloc (.cells #[F none 0 0,F none 0 0,O U 0,O U 0,O U 0,sQ ⟨#[]⟩,sQ ⟨#[]⟩,O U 0] 42)=W at L0 b0 ⊢
  refine (cS W).mono ?_
  rintro e W1 ⟨TA,tc,OA,oc,rfl,hT,hO,hb1⟩
  simp only [if_true,cj,Option.getD_some] at hT hO
  simp only [if_true,cj,Option.getD_some,Option.isSome_some,Oc.at,aM.val]
  simp only [List.length_cons,List.length_nil,Nat.zero_add] at hT hO ⊢
  have hal:=(Below.refl W1.heap.size W1).alloc (Nat.le_refl _) (.cells #[F TA 1 tc,F OA 0 oc,O U n,O U 0,O U 0] 40)
  have b1:=b0.trans ((ar hb1 hal).mono b0.size)
  have L1:=(L0.below hb1 L0.lt).below hal (Nat.lt_of_lt_of_le L0.lt hb1.size)
  have P:=ai.new W1 40 #[F TA 1 tc,F OA 0 oc,O U n,O U 0,O U 0]
  have hT1:=af (ab hT hal) b0.size
  have hO1:=af (ab hO hal) b0.size
  clear hal hb1 b0 L0 hT hO
  obtain ⟨z0,z1,z2,z3,z4,z5,z6,z7⟩:=cells8 L1
  obtain ⟨f0,f1,f2,f3,f4,f5,f6,f7⟩:=frz8 L1
  obtain ⟨p0,p1,p2,p3,p4⟩:=cells5 P
  have bz:=Lib.hid ((((((((b1.setCell (p:=⟨w.heap.size,0,none⟩) (Nat.le_refl _) (F TA 1 tc)).setCell (p:=⟨w.heap.size,1,none⟩) (Nat.le_refl _) (F OA 0 oc)).setCell (p:=⟨w.heap.size,2,none⟩) (Nat.le_refl _) (O U n)).setCell (p:=⟨w.heap.size,3,none⟩) (Nat.le_refl _) (O U 0)).setCell (p:=⟨w.heap.size,4,none⟩) (Nat.le_refl _) (O U 0)).setCell (p:=⟨w.heap.size,5,none⟩) (Nat.le_refl _) (sQ ⟨#[]⟩)).setCell (p:=⟨w.heap.size,6,none⟩) (Nat.le_refl _) (sQ ⟨#[]⟩)).setCell (p:=⟨w.heap.size,7,none⟩) (Nat.le_refl _) (O U 0))
  have hT:=Lib.hid (al (al (al (al (al (al (al (al hT1 L1 fD 0 (F TA 1 tc)) (L1.set 0 (F TA 1 tc)) fD 1 (F OA 0 oc)) ((L1.set 0 (F TA 1 tc)).set 1 (F OA 0 oc)) fD 2 (O U n)) (((L1.set 0 (F TA 1 tc)).set 1 (F OA 0 oc)).set 2 (O U n)) fD 3 (O U 0)) ((((L1.set 0 (F TA 1 tc)).set 1 (F OA 0 oc)).set 2 (O U n)).set 3 (O U 0)) fD 4 (O U 0)) (((((L1.set 0 (F TA 1 tc)).set 1 (F OA 0 oc)).set 2 (O U n)).set 3 (O U 0)).set 4 (O U 0)) fD 5 (sQ ⟨#[]⟩)) ((((((L1.set 0 (F TA 1 tc)).set 1 (F OA 0 oc)).set 2 (O U n)).set 3 (O U 0)).set 4 (O U 0)).set 5 (sQ ⟨#[]⟩)) fD 6 (sQ ⟨#[]⟩)) (((((((L1.set 0 (F TA 1 tc)).set 1 (F OA 0 oc)).set 2 (O U n)).set 3 (O U 0)).set 4 (O U 0)).set 5 (sQ ⟨#[]⟩)).set 6 (sQ ⟨#[]⟩)) fD 7 (O U 0))
  have hO:=Lib.hid (al (al (al (al (al (al (al (al hO1 L1 j0 0 (F TA 1 tc)) (L1.set 0 (F TA 1 tc)) j0 1 (F OA 0 oc)) ((L1.set 0 (F TA 1 tc)).set 1 (F OA 0 oc)) j0 2 (O U n)) (((L1.set 0 (F TA 1 tc)).set 1 (F OA 0 oc)).set 2 (O U n)) j0 3 (O U 0)) ((((L1.set 0 (F TA 1 tc)).set 1 (F OA 0 oc)).set 2 (O U n)).set 3 (O U 0)) j0 4 (O U 0)) (((((L1.set 0 (F TA 1 tc)).set 1 (F OA 0 oc)).set 2 (O U n)).set 3 (O U 0)).set 4 (O U 0)) j0 5 (sQ ⟨#[]⟩)) ((((((L1.set 0 (F TA 1 tc)).set 1 (F OA 0 oc)).set 2 (O U n)).set 3 (O U 0)).set 4 (O U 0)).set 5 (sQ ⟨#[]⟩)) j0 6 (sQ ⟨#[]⟩)) (((((((L1.set 0 (F TA 1 tc)).set 1 (F OA 0 oc)).set 2 (O U n)).set 3 (O U 0)).set 4 (O U 0)).set 5 (sQ ⟨#[]⟩)).set 6 (sQ ⟨#[]⟩)) j0 7 (O U 0))
  clear L1 b1 hT1 hO1 P
  go_wp2
  refine bodyPost_ret (v:=.tuple #[.agg #[F TA 1 tc,F OA 0 oc,O U n,O U 0,O U 0,sQ ⟨#[]⟩,sQ ⟨#[]⟩,O U 0],.bool true]) (by simp [results,Tryz.results37,go_sem, *]) rfl ?_
  exact ⟨TA,tc,OA,oc,rfl,hT.out,hO.out,bz.out⟩
def hQ (w:World) (B:Nat) (A:Option Addr) (m:List da):Prop:=br w B 2 A m.length (m.flatMap da.enc)
theorem hQ.of {w:World} {B c:Nat} {A:Option Addr} {m:List da} (h:w.ownsRow B 62 2 (F A m.length c) m.length (m.flatMap da.enc)):hQ w w.heap.size A m:=(bP.of h).reads
theorem hQ.then {w w' : World} {A:Option Addr} {m:List da} (h:hQ w w.heap.size A m) (hb:Below w.heap.size w w'):hQ w' w'.heap.size A m:=br.then h hb
theorem hQ.cells {w:World} {B:Nat} {A:Option Addr} {m:List da} (h:hQ w B A m) (hne:0 < m.length):∃ b off,A=some ⟨b,off,none⟩∧b < B∧∀ i (hi:i < m.length) (p:ao B w),
  p.val.cell? ⟨b,off+i * 2,none⟩=some (sQ m[i].c)∧p.val.cell? ⟨b,off+i * 2+1,none⟩=some (sQ m[i].r):=by
 obtain ⟨b,off,e,hb,hc⟩:=br.at_ h hne
 refine ⟨b,off,e,hb,fun i hi p=>?_⟩
 have key:∀ j,j < 2→∀ u,(m[i].enc)[j]?=some u→p.val.cell? ⟨b,off+i * 2+j,none⟩=some u:=fun j hj u hu=>by
  rw [p.cell hb,Nat.add_assoc]
  exact hc _ u (by rw [ig da.enc 2 da.enc_len m i hi j hj]; exact hu)
 exact ⟨key 0 (by omega) _ rfl,key 1 (by omega) _ rfl⟩
noncomputable def iT (l:Lg):List ((List UInt8 × List UInt8) × Nat):=if l.ok then aT 60 0 (bl l.D++bl l.P) else []
def mY (l:Lg) (w:World) (e:Ending) (w' : World):Prop:=∃ A c m,e=.returned (.tuple #[F A (List.length m) c,.bool l.ok])∧ed (iT l) m∧w'.ownsRow w.heap.size 62 2 (F A m.length c) m.length (m.flatMap da.enc)∧Below w.heap.size w w'
theorem rr {l:List ((List UInt8 × List UInt8) × Nat)} {m m' : List da} (h:ed l m) (h' : ed l m'):m=m':=by
 unfold ed at h h'
 have e:m.map (fun r=>(bl r.c,bl r.r))=m'.map (fun r=>(bl r.c,bl r.r)):=h.trans h'.symm
 clear h h'
 induction m generalizing m' with
 | nil=>cases m' with
  | nil=>rfl
  | cons y m'=>simp at e
 | cons x m ih=>cases m' with
  | nil=>simp at e
  | cons y m' =>
   simp only [List.map_cons,List.cons.injEq,Prod.mk.injEq] at e
   obtain ⟨⟨e1,e2⟩,e3⟩:=e
   obtain ⟨xc,xr⟩:=x
   obtain ⟨yc,yr⟩:=y
   rw [show xc=yc from dd e1,show xr=yr from dd e2,ih e3]
theorem mZ (l:Lg) {m:List da} (h:ed (iT l) m):m.length≤60:=by
 rw [jt h]; unfold iT
 split
 ·exact dh 60 0 _
 ·simp
set_option maxRecDepth 100000 in
set_option maxHeartbeats 2000000 in
theorem jy (l:Lg) (w:World) (hs:l.D.size+l.P.size≤2000000) :
  Calls Tryz.prog 41 #[l.val] w (mY l w):=by
 have b1:=(Below.refl w.heap.size w).alloc (Nat.le_refl _) (.cells #[sQ l.D,sQ l.P,O U l.n] 27)
 have L1:=ai.new w 27 #[sQ l.D,sQ l.P,O U l.n]
 have hz:(l.D++l.P).size=l.D.size+l.P.size:=dK _ _
 have hbl:bl (l.D++l.P)=bl l.D++bl l.P:=du _ _
 go_enter Tryz.func41,Tryz.ntmps41
 go_wp2_with fail
 generalize w.alloc (.cells #[sQ l.D,sQ l.P,O U l.n] 27)=W at b1 L1 ⊢
 generalize hg:w.heap.size=g at L1 ⊢
 refine (iu l _ hs).mono ?_
 rintro e w2 ⟨rfl,hb2⟩
 have L2:=L1.below hb2 L1.lt
 have c0:=L2.cell 0
 have c1:=L2.cell 1
 have c2:=L2.cell 2
 simp only [List.getElem?_cons_zero,List.getElem?_cons_succ] at c0 c1 c2
 have hbb:Below w.heap.size w w2:=by rw [← hg] at *; exact ar b1 hb2
 cases hok:l.ok
 ·have HK:=Lib.hid hok
  clear hok hbl L1 L2
  have hb3:=hbb.alloc hbb.size (.cells #[] 62)
  have hO:(w2.alloc (.cells #[] 62)).ownsRow w.heap.size 62 2 (F (some ⟨w2.heap.size,0,none⟩) 0 0) 0 (([] : List da).flatMap da.enc):=cz (ai.new w2 62 #[]) hbb.size
  have HO:=Lib.hid hO
  clear hO
  go_wp2_with fail
  go_ret2
  exact ⟨_,_,[],by rw [HK.out]; rfl,by unfold iT; rw [HK.out]; rfl,HO.out,hb3⟩
 ·have HK:=Lib.hid hok
  have hsm:l.D.size+l.P.size≤30000:=by
   have h9:=gA (dA.1 hok).1
   rwa [ap,ap] at h9
  have HO:Hid (∀ W,Calls Tryz.prog 77 #[sQ (l.D++l.P)] W (fR (l.D++l.P) W)):=fun W=>iS (l.D++l.P) W (by omega)
  have HB:=Lib.hid hbl
  clear hok hbl L1 L2
  go_wp2_with fail
  refine (HO.out _).mono ?_
  rintro e w3 ⟨A,c,m,rfl,hm,hO,hb3⟩
  go_wp2_with fail
  go_ret2
  exact ⟨A,c,m,by rw [HK.out]; rfl,by unfold iT; rw [HK.out,if_pos rfl,← HB.out]; exact hm,af hO (hbb.size),hbb.trans (hb3.mono hbb.size)⟩
set_option maxRecDepth 100000 in
set_option maxHeartbeats 2000000 in
theorem jz (l:Lg) (w:World) (hs:l.D.size+l.P.size≤2000000) (ht:hU w) :
  Calls Tryz.prog 30 #[l.val] w (mY l w):=by
 have b1:=(Below.refl w.heap.size w).alloc (Nat.le_refl _) (.cells #[sQ l.D,sQ l.P,O U l.n] 27)
 have L1:=ai.new w 27 #[sQ l.D,sQ l.P,O U l.n]
 have ht1:=ht.then b1
 have hz:(l.D++l.P).size=l.D.size+l.P.size:=dK _ _
 have hbl:bl (l.D++l.P)=bl l.D++bl l.P:=du _ _
 go_enter Tryz.func30,Tryz.ntmps30
 go_wp2_with fail
 generalize w.alloc (.cells #[sQ l.D,sQ l.P,O U l.n] 27)=W at ht1 b1 L1 ⊢
 generalize hg:w.heap.size=g at L1 ⊢
 refine (gV l _ hs ht1).mono ?_
 rintro e w2 ⟨rfl,hb2⟩
 have L2:=L1.below hb2 L1.lt
 have c0:=L2.cell 0
 have c1:=L2.cell 1
 have c2:=L2.cell 2
 simp only [List.getElem?_cons_zero,List.getElem?_cons_succ] at c0 c1 c2
 have hbb:Below w.heap.size w w2:=by rw [← hg] at *; exact ar b1 hb2
 cases hok:l.ok
 ·have HK:=Lib.hid hok
  clear hok hbl L1 L2
  go_wp2_with fail
  go_ret2
  exact ⟨none,0,[],by rw [HK.out]; rfl,by unfold iT; rw [HK.out]; rfl,World.ownsRow_nil _ _ _ _,hbb⟩
 ·have HK:=Lib.hid hok
  have hsm:l.D.size+l.P.size≤30000:=by
   have h9:=gA (dA.1 hok).1
   rwa [ap,ap] at h9
  have HO:Hid (∀ W,hU W→Calls Tryz.prog 68 #[sQ (l.D++l.P)] W (gU (l.D++l.P) W)):=fun W hW=>iz (l.D++l.P) W (by omega) hW
  have HB:=Lib.hid hbl
  clear hok hbl L1 L2
  go_wp2_with fail
  refine (HO.out _ (ht.then hbb)).mono ?_
  rintro e w3 ⟨A,c,A8,c8,m,rfl,hm,hO,_,hb3⟩
  go_wp2_with fail
  go_ret2
  exact ⟨A,c,m,by rw [HK.out]; rfl,by unfold iT; rw [HK.out,if_pos rfl,← HB.out]; exact hm,af hO (hbb.size),hbb.trans (hb3.mono hbb.size)⟩
def Lg.zero:Lg:=⟨⟨#[]⟩,⟨#[]⟩,0⟩
noncomputable def jo (l:Lg):List da:=(iT l).map fun e=>⟨⟨e.1.1.toArray⟩,⟨e.1.2.toArray⟩⟩
theorem mi (l:Lg):ed (iT l) (jo l):=by
 unfold ed jo
 rw [List.map_map]
 exact List.map_congr_left fun e _=>rfl
theorem o5 {l:Lg} {m:List da} (h:ed (iT l) m):m=jo l:=rr h (mi l)
noncomputable def dw:List da→Oc→Lg→Nat→Nat
 | [],_,_,i=>i
 | e :: es,y,l,i=>if ss y l e.c=e.r then dw es (so y l e.c) (sq y l e.c) (i+1) else i
theorem mj {m:List da} {k:Nat} (h:k < m.length) {y:Oc} {l:Lg} {i:Nat} (hT:ss y l m[k].c=m[k].r):dw (m.drop k) y l i=dw (m.drop (k+1)) (so y l m[k].c) (sq y l m[k].c) (i+1):=by
 rw [List.drop_eq_getElem_cons h,dw,if_pos hT]
theorem m3 {m:List da} {k:Nat} (h:k < m.length) {y:Oc} {l:Lg} {i:Nat} (hT:ss y l m[k].c ≠ m[k].r):dw (m.drop k) y l i=i:=by
 rw [List.drop_eq_getElem_cons h,dw,if_neg hT]
noncomputable def kG (n:Int) (l:Lg):Bool:=bI n 1 9999 && l.ok
noncomputable def o6 (n:Int) (l:Lg):Nat:=if kG n l then dw (jo l) (eU n) Lg.zero 0 else 0
theorem o7 {n:Int} (h:bI n 1 9999=true):qt (eU n) Lg.zero=true:=by
 have h0:Oc.zero.good=true:=by decide
 refine lz.2 ⟨?_, ?_⟩
 ·have h1:=mX n
  rw [if_pos h] at h1
  have h2:=(eG h1).1
  unfold eU
  rw [if_pos h]; exact h2
 ·unfold Lg.ok Lg.zero
  rw [dA]
  have e:bl (⟨#[]⟩ : ByteArray) = []:=rfl
  simp only [e,List.append_nil]
  have e0:aT 60 0 [] = []:=by unfold aT; rw [if_neg (by simp)]
  rw [e0]; simp [dy]
theorem mn:∀ (n k:Nat) (s:List UInt8),∀ a ∈ aT n k s,fF a.1.1 a.1.2=true
 | 0,_,_,a,h=>by simp [aT] at h
 | n+1,k,s,a,h=>by
  unfold aT at h
  split at h
  ·cases hd:dx k (dt 10 s) with
   | none=>rw [hd] at h; cases h
   | some e =>
    rw [hd] at h
    rcases List.mem_cons.1 h with rfl | h
    ·exact (nP hd).1
    ·exact mn n (k+1) _ a h
  ·cases h
theorem mo (l:Lg):∀ e ∈ jo l,e.c.size≤1048576:=by
 intro e he
 unfold jo at he
 obtain ⟨a,ha,rfl⟩:=List.mem_map.1 he
 unfold iT at ha
 split at ha
 ·have h2:=(cP.1 (mn _ _ _ a ha)).2.1
  show a.1.1.toArray.size≤_
  rw [List.size_toArray]; omega
 ·cases ha
abbrev o8 (m:List ByteArray):List Value:=m.map Value.string
def mE (w:World) (B:Nat) (A:Option Addr) (m:List ByteArray):Prop:=br w B 1 A m.length (o8 m)
abbrev mp (w:World) (B:Nat) (A:Option Addr) (c:Nat) (m:List ByteArray):Prop:=w.ownsRow B 9 1 (F A m.length c) m.length (o8 m)
theorem mp.reads {w:World} {B c:Nat} {A:Option Addr} {m:List ByteArray} (h:mp w B A c m):mE w w.heap.size A m:=(bP.of h).reads
theorem mE.then {w w' : World} {A:Option Addr} {m:List ByteArray} (h:mE w w.heap.size A m) (hb:Below w.heap.size w w'):mE w' w'.heap.size A m:=br.then h hb
theorem r4 (m:List ByteArray) (i:Nat) (h:i < m.length):(o8 m)[i]?=some (sQ m[i]):=by simp [o8,h]
theorem mE.cells {w:World} {B:Nat} {A:Option Addr} {m:List ByteArray} (h:mE w B A m) (hne:0 < m.length):∃ b off,A=some ⟨b,off,none⟩∧b < B∧∀ i (hi:i < m.length) (p:ao B w),p.val.cell? ⟨b,off+i,none⟩=some (sQ m[i]):=by
 obtain ⟨b,off,e,hb,hc⟩:=br.at_ h hne
 exact ⟨b,off,e,hb,fun i hi p=>by rw [p.cell hb]; exact hc _ _ (r4 m i hi)⟩
theorem r5 {w0 w:World} {B g:Nat} {t:TypeId} {x0 x1 x2 x3 x4 x5 x6 x7:Value} (hL:ai w g t [x0,x1,x2,x3,x4,x5,x6,x7]) (b:Below B w0 w) (hB:B≤g) (a0 a1 a2 a3 a4 a5 a6 a7:Value) :
  ∃ W' : World,Hid ((((((((w.setCell ⟨g,0,none⟩ a0).setCell ⟨g,1,none⟩ a1).setCell ⟨g,2,none⟩ a2).setCell ⟨g,3,none⟩ a3).setCell ⟨g,4,none⟩ a4).setCell ⟨g,5,none⟩ a5).setCell ⟨g,6,none⟩ a6).setCell ⟨g,7,none⟩ a7=W')∧ai W' g t [a0,a1,a2,a3,a4,a5,a6,a7]∧Below B w0 W'∧w.grownBy W' (some g) :=
 ⟨_,rfl,nz hL a0 a1 a2 a3 a4 a5 a6 a7,dN b hB a0 a1 a2 a3 a4 a5 a6 a7,ac (ac (ac (ac (ac (ac (ac (ac (World.grownBy.refl w (some g)))))))))⟩
def qy (w:World) (m:List ByteArray) (ok:Bool) (e:Ending) (w' : World):Prop:=∃ A c,e=.returned (.tuple #[F A m.length c,.bool ok])∧mp w' w.heap.size A c m∧Below w.heap.size w w'
theorem qy.mk {w w' : World} {m m' : List ByteArray} {ok ok' : Bool} {A:Option Addr} {c n:Nat} (hm:m=m') (ho:ok=ok') (hn:m'.length=n) (h:mp w' w.heap.size A c m') (hb:Below w.heap.size w w'):qy w m ok (.returned (.tuple #[F A n c,.bool ok'])) w':=by
 subst hm; subst ho; subst hn; exact ⟨A,c,rfl,h,hb⟩
theorem r6 (m:List ByteArray) (t:ByteArray):o8 m++[sQ t]=o8 (m++[t]):=by simp [o8]
theorem mp.push {w:World} {B n:Nat} {m:List ByteArray} {t:ByteArray} {v:Value} (h:w.ownsRow B 9 1 v (n+1) (o8 m++[sQ t])) (hn:m.length=n):∃ A c,v=F A (n+1) c∧mp w B A c (m++[t]):=by
 obtain ⟨A,c,rfl⟩:=aw h
 refine ⟨A,c,rfl, ?_⟩
 unfold mp
 rw [show (m++[t]).length=n+1 by rw [List.length_append,hn]; rfl,← r6]; exact h
theorem r7 {w:World} {B:Nat} {e:TypeId} {k:Nat} {v:Value} {n:Nat} {xs:List Value} (h:w.ownsRow B e k v n xs) {g:Nat} (hg:v.ownBlock=some g):∃ cs,ai w g e cs:=by
 obtain ⟨_,⟨h0,_⟩ | ⟨g',cap,cur,hv,_,hh,_⟩⟩:=h
 ·subst h0; cases hg
 ·subst hv; injection hg with hg; subst hg; exact ⟨_,ai.of hh⟩
def qa (w:World) (B:Nat) (A:Option Addr) (c:Nat) (m:List ByteArray):Prop:=mp w B A c m ∨ (m = []∧c=0∧∃ g,A=some ⟨g,0,none⟩)
theorem qa.below {w w' : World} {B:Nat} {A:Option Addr} {c:Nat} {m:List ByteArray} (h:qa w B A c m) (hb:Below w.heap.size w w'):qa w' B A c m:=by
 rcases h with h | h
 ·exact .inl (ab h hb)
 ·exact .inr h
theorem qa.kept {w w' : World} {B:Nat} {A:Option Addr} {c:Nat} {m:List ByteArray} (h:qa w B A c m) {g:Nat} {t:TypeId} {cs:List Value} (hL:ai w g t cs) (hne:9 ≠ t) (hg:w.grownBy w' (some g)):qa w' B A c m:=by
 rcases h with h | h
 ·exact .inl (aj h hL hne hg)
 ·exact .inr h
structure sF (w:World) (B:Nat) (row:Option Nat):Prop where
 lt:∀ b,row=some b→B≤b∧b < w.heap.size
 far:∀ (g:Nat) (t:TypeId) (cs:List Value),9 ≠ t→ai w g t cs→some g ≠ row
theorem sF.own {w w' : World} {B:Nat} {row:Option Nat} (h:sF w B row) (hg:w.grownBy w' row) {B' : Nat} {e:TypeId} {k:Nat} {v:Value} {n:Nat} {xs:List Value} (ho:w.ownsRow B' e k v n xs) (hne:9 ≠ e):w'.ownsRow B' e k v n xs:=by
 refine ho.kept hg ?_
 cases hv:v.ownBlock with
 | none=>exact .inl rfl
 | some g =>
  obtain ⟨cs,hL⟩:=r7 ho hv
  exact .inr (h.far g e cs hne hL)
def ex (w:World) (n:Nat) (ok:Bool) (e:Ending) (w' : World):Prop:=e=.returned (.tuple #[O U (n:Int),.bool ok])∧Below w.heap.size w w'
theorem ex.mk {w w' : World} {n n' : Nat} {i:Int} {ok ok' : Bool} (hn:n=n') (hi:(n' : Int)=i) (ho:ok=ok') (hb:Below w.heap.size w w'):ex w n ok (.returned (.tuple #[O U i,.bool ok'])) w':=by
 subst hn; subst ho; subst hi; exact ⟨rfl,hb⟩
theorem su:62 ≠ 42:=by decide
theorem m4 (b:ByteArray):b.toList=bl b:=by
 have h:=sk b b.toList
 rw [beq_self_eq_true] at h
 exact (of_decide_eq_true h.symm).symm
theorem qz {a b:ByteArray} (h:a ≠ b):(a.toList == b.toList)=false:=by
 rw [beq_eq_false_iff_ne]; intro e
 rw [m4,m4] at e
 exact h (dd e)
set_option maxRecDepth 100000 in
set_option maxHeartbeats 8000000 in
theorem nH (n:Int) (l:Lg) (w:World) (hs:l.D.size+l.P.size≤2000000) (hLW:LW w) :
  Calls Tryz.prog 12 #[O U n,l.val] w (ex w (o6 n l) (kG n l)):=by
 have b0:=(Below.refl w.heap.size w).alloc (Nat.le_refl _) (.cells #[sQ l.D,sQ l.P,O U l.n] 27)
 have L0:=ai.new w 27 #[sQ l.D,sQ l.P,O U l.n]
 have hL0:=hLW.then b0
 have NW:=fun W=>oZ n W
 have hml:=mZ l (mi l)
 have HOK:=Lib.hid (fun h=>o7 (n:=n) h)
 obtain ⟨iR,hiR⟩ : ∃ iR,bI n 1 9999=iR:=⟨_,rfl⟩
 obtain ⟨oR,hoR⟩ : ∃ oR,l.ok=oR:=⟨_,rfl⟩
 obtain ⟨kR,hkR⟩ : ∃ kR,o6 n l=kR:=⟨_,rfl⟩
 obtain ⟨bR,hbR⟩ : ∃ bR,kG n l=bR:=⟨_,rfl⟩
 have HB:Hid (bR=(iR && oR)):=by rw [Hid,← hbR,← hiR,← hoR]; rfl
 have HK:Hid (kR=if bR then dw (jo l) (eU n) Lg.zero 0 else 0):=by rw [Hid,← hkR,← hbR]; rfl
 rw [hkR,hbR]
 rw [hiR] at NW HOK
 obtain ⟨y0,hy0⟩ : ∃ y0,eU n=y0:=⟨_,rfl⟩
 rw [hy0] at NW HK HOK
 have LG:=fun W hL=>gV l W hs (LW.tab hL)
 rw [hoR] at LG
 clear hiR hkR hbR hy0
 have HO2:=Lib.hid hoR
 clear hoR
 go_enter Tryz.func12,Tryz.ntmps12
 go_wp2_with fail
 generalize w.alloc (.cells #[sQ l.D,sQ l.P,O U l.n] 27)=W at b0 L0 hL0 ⊢
 refine (NW W).mono ?_
 rintro e w1 ⟨TA,tc,OA,oc,rfl,hT1,hO1,hb1⟩
 have hal:=(Below.refl w1.heap.size w1).alloc (Nat.le_refl _) (.cells #[F TA y0.t.length tc,F OA y0.o.length oc,O U y0.got,O U y0.sold,O U y0.missed,sQ ⟨#[]⟩,sQ ⟨#[]⟩,O U 0] 42)
 have P2:=ai.new w1 42 #[F TA y0.t.length tc,F OA y0.o.length oc,O U y0.got,O U y0.sold,O U y0.missed,sQ ⟨#[]⟩,sQ ⟨#[]⟩,O U 0]
 have hb12:=ar hb1 hal
 have L2:=L0.below hb12 L0.lt
 have b2:=b0.trans (hb12.mono b0.size)
 have hT2:=ab hT1 hal
 have hO2:=ab hO1 hal
 have hL2:=hL0.then hb12
 have hgw:w.heap.size≤w1.heap.size:=Nat.le_trans b0.size hb1.size
 have hgl:w.heap.size < w1.heap.size:=Nat.lt_of_lt_of_le L0.lt hb1.size
 go_upto_region 2 with fail
 generalize w1.alloc (.cells #[F TA y0.t.length tc,F OA y0.o.length oc,O U y0.got,O U y0.sold,O U y0.missed,sQ ⟨#[]⟩,sQ ⟨#[]⟩,O U 0] 42)=w2 at P2 L2 b2 hT2 hO2 hL2 ⊢
 clear hal hb1 hb12 L0 b0 hT1 hO1 NW hL0
 generalize w1.heap.size=gc at P2 hgw hgl ⊢
 have c0:=L2.cell 0
 have c1:=L2.cell 1
 have c2:=L2.cell 2
 simp only [List.getElem?_cons_zero,List.getElem?_cons_succ] at c0 c1 c2
 cases iR
 ·obtain rfl:bR=false:=HB.out
  go_wp2
  refine bodyPost_ret (v:=.tuple #[O U 0,.bool false]) (by simp [results,Tryz.results12,go_sem, *]) rfl (ex.mk HK.out rfl HB.out b2)
 ·go_wp2_with fail
  refine (LG w2 hL2).mono ?_
  rintro e w3 ⟨rfl,hb3⟩
  have L3:=L2.below hb3 L2.lt
  have P3:=P2.below hb3 P2.lt
  have b3:=b2.trans (hb3.mono b2.size)
  have hT3:=ab hT2 hb3
  have hO3:=ab hO2 hb3
  have hL3:=hL2.then hb3
  clear L2 P2 b2 hT2 hO2 hb3 LG c0 c1 c2 hL2
  cases oR
  ·obtain rfl:bR=false:=HB.out
   go_wp2
   refine bodyPost_ret (v:=.tuple #[O U 0,.bool false]) (by simp [results,Tryz.results12,go_sem, *]) rfl (ex.mk HK.out rfl HB.out b3)
  ·obtain rfl:bR=true:=HB.out
   have c0:=L3.cell 0
   have c1:=L3.cell 1
   have c2:=L3.cell 2
   simp only [List.getElem?_cons_zero,List.getElem?_cons_succ] at c0 c1 c2
   have hok0:=HOK.out (by trivial)
   have RC:=jz l w3 hs (LW.tab hL3)
   go_wp2_with fail
   refine RC.mono ?_
   rintro e w4 ⟨A4,c4,m,rfl,hm,hR4,hb4⟩
   rw [o5 hm] at hR4 ⊢
   have P4:=P3.below hb4 P3.lt
   have b4:=b3.trans (hb4.mono b3.size)
   have hT4:=ab hT3 hb4
   have hO4:=ab hO3 hb4
   have h34:=hb4.size
   have hgc:=P3.lt
   clear hm RC L3 P3 b3 hT3 hO3 hb4 c0 c1 c2 HOK HO2 hL3
   have HML:=Lib.hid (mo l)
   have hgc3:gc < w3.heap.size:=hgc
   generalize jo l=m at hml hR4 HK HML ⊢
   have HKR:Hid (kR=dw m y0 Lg.zero 0):=HK.out
   have hX0:Hid (aQ w4 w4.heap.size (y0.at TA tc OA oc)):=⟨aB hT4,aB hO4⟩
   have HP0:Hid (ai w4 gc 42 [F TA y0.t.length tc,F OA y0.o.length oc,O U y0.got,O U y0.sold,O U y0.missed,sQ ⟨#[]⟩,sQ ⟨#[]⟩,O U 0]):=P4
   have HR0:Hid (w4.ownsRow w3.heap.size 62 2 (F A4 m.length c4) m.length (m.flatMap da.enc)):=hR4
   have HG0:Hid (dw (m.drop 0) y0 Lg.zero 0=dw m y0 Lg.zero 0):=rfl
   have HOK0:Hid (qt (y0.at TA tc OA oc).c Lg.zero=true):=hok0
   clear hok0 hR4 P4 hT4 hO4 HK
   go_wp2_with fail
   go_loopw [10,11,12,13,33] (fun _ _ _ _ i wr=>∃ (k:Nat) (X:aM) (l1:Lg),k≤m.length∧i=O U k∧Hid (qt X.c l1=true)∧Hid (aQ wr wr.heap.size X)∧Hid (ai wr gc 42 [F X.TA X.t.length X.tc,F X.OA X.o.length X.oc,O U X.got,O U X.sold,O U X.missed,sQ l1.D,sQ l1.P,O U l1.n])∧Hid (wr.ownsRow w3.heap.size 62 2 (F A4 m.length c4) m.length (m.flatMap da.enc))∧Below w.heap.size w wr∧Hid (dw (m.drop k) X.c l1 k=dw m y0 Lg.zero 0)) (fun _ _ _ _ i _=>m.length - (intOf i).toNat)
   case atStart=>exact ⟨0,y0.at TA tc OA oc,Lg.zero,Nat.zero_le _,rfl,HOK0,hX0,HP0,HR0,b4,HG0⟩
   case round =>
    clear b4 hX0 HP0 HR0 HG0 HOK0
    obtain ⟨k,X,l1,hk,rfl,HOK,HX,HL,HR,hbr,HG⟩:=hrel
    by_cases hlt:k < m.length
    ·have hrr:=hQ.of HR.out
     obtain ⟨b,off,rfl,hb,hcell⟩:=hQ.cells hrr (by omega)
     have q0:=fun q=>(hcell k hlt q).1
     have q1:=fun q=>(hcell k hlt q).2
     have HY:=Lib.hid (fun h=>mj hlt (y:=X.c) (l:=l1) (i:=k) h)
     have HN:=Lib.hid (fun h=>m3 hlt (y:=X.c) (l:=l1) (i:=k) h)
     have hrz:=HML.out _ (List.getElem_mem hlt)
     obtain ⟨e,hee⟩ : ∃ e,e=m[k]:=⟨_,rfl⟩
     rw [← hee] at q0 q1 HY HN hrz
     clear hee hcell hrr
     have HS:=mW HOK.out
     obtain ⟨htl,hol,hdp⟩:=HS
     have L3:=HL.out
     have hX:=HX.out
     have hgL:=L3.lt
     have eT:=qw X l1 e.c
     have eO:=qu X l1 e.c
     have eL:=qv X l1 e.c
     have HOK2:=Lib.hid (qx e.c HOK.out)
     obtain ⟨rp,hrp⟩ : ∃ rp,ss X.c l1 e.c=rp:=⟨_,rfl⟩
     obtain ⟨y,hy⟩ : ∃ y,so X.c l1 e.c=y:=⟨_,rfl⟩
     obtain ⟨l2,hl2⟩ : ∃ l2,sq X.c l1 e.c=l2:=⟨_,rfl⟩
     rw [hy,hl2] at HOK2 HY
     rw [hrp] at eT HY HN
     rw [hy] at eO
     rw [hl2] at eL
     clear hrp hy hl2 HOK HL HX
     have EX:=fun W hW hL=>p8 X l1 e.c W hW htl hol hdp hrz hL
     unfold bV at EX
     rw [eT,eO,eL] at EX
     clear eT eO eL
     have d0:=q0 ⟨wr,Below.refl _ _⟩
     have d1:=q1 ⟨wr,Below.refl _ _⟩
     clear q0 q1
     have hal:=(Below.refl wr.heap.size wr).alloc (Nat.le_refl _) (.cells #[sQ e.c,sQ e.r] 62)
     have E5:=ai.new wr 62 #[sQ e.c,sQ e.r]
     have L5:=L3.below hal L3.lt
     have R5:=ab HR.out hal
     have hX5:=hX.then hal
     have b5:=hbr.trans (hal.mono hbr.size)
     have hgB:gc < w3.heap.size:=hgc3
     go_upto_region 8 with fail
     generalize wr.alloc (.cells #[sQ e.c,sQ e.r] 62)=w5 at hal E5 L5 R5 hX5 b5 ⊢
     clear hal L3 hX HR hbr d0 d1
     generalize wr.heap.size=ge at E5 ⊢
     obtain ⟨z0,z1,z2,z3,z4,z5,z6,z7⟩:=cells8 L5
     have d0:=E5.cell 0
     have d1:=E5.cell 1
     simp only [List.getElem?_cons_zero,List.getElem?_cons_succ] at d0 d1
     go_wp2_with fail
     refine (EX w5 hX5 (hLW.then b5)).mono ?_
     rintro en w6 ⟨v,rfl,⟨TB,tb,OB,ob,rfl,hT6,hO6⟩,hb6⟩
     have hal:=(Below.refl w6.heap.size w6).alloc (Nat.le_refl _) (.cells #[F TB y.t.length tb,F OB y.o.length ob,O U y.got,O U y.sold,O U y.missed,sQ l2.D,sQ l2.P,O U l2.n] 42)
     have N7:=ai.new w6 42 #[F TB y.t.length tb,F OB y.o.length ob,O U y.got,O U y.sold,O U y.missed,sQ l2.D,sQ l2.P,O U l2.n]
     have hb67:=ar hb6 hal
     have L7:=L5.below hb67 L5.lt
     have E7:=E5.below hb67 E5.lt
     have R7:=ab R5 hb67
     have hT7:=ab hT6 hal
     have hO7:=ab hO6 hal
     have b7:=b5.trans (hb67.mono b5.size)
     have hgn:w5.heap.size≤w6.heap.size:=hb6.size
     have hgL5:=L5.lt
     go_upto_region 9 with fail
     generalize w6.alloc (.cells #[F TB y.t.length tb,F OB y.o.length ob,O U y.got,O U y.sold,O U y.missed,sQ l2.D,sQ l2.P,O U l2.n] 42)=w7 at hal N7 L7 E7 R7 hT7 hO7 b7 ⊢
     clear hal hb67 hb6 hT6 hO6 L5 E5 R5 hX5 b5 EX z0 z1 z2 z3 z4 z5 z6 z7 d0 d1
     generalize w6.heap.size=gn at N7 hgn ⊢
     have d0:=E7.cell 0
     have d1:=E7.cell 1
     simp only [List.getElem?_cons_zero,List.getElem?_cons_succ] at d0 d1
     by_cases hTe:rp=e.r
     ·have hne:(rp.toList != e.r.toList)=false:=by rw [hTe]; simp
      have HY2:=Lib.hid (HY.out hTe)
      have hne2:(e.r.toList != e.r.toList)=false:=by simp
      clear HN HY
      subst hTe
      obtain ⟨z0,z1,z2,z3,z4,z5,z6,z7⟩:=cells8 L7
      obtain ⟨f0,f1,f2,f3,f4,f5,f6,f7⟩:=frz8 L7
      obtain ⟨p0,p1,p2,p3,p4,p5,p6,p7⟩:=cells8 N7
      obtain ⟨W8,HW8,N8,b8,gr8⟩:=r5 (g:=gc) L7 b7 hgw (F TB y.t.length tb) (F OB y.o.length ob) (O U y.got) (O U y.sold) (O U y.missed) (sQ l2.D) (sQ l2.P) (O U l2.n)
      have R8:=aj R7 L7 su gr8
      have hT8:=aj hT7 L7 eN gr8
      have hO8:=aj hO7 L7 eQ gr8
      have h5:Hid (aQ W8 W8.heap.size (y.at TB tb OB ob)):=⟨aB hT8,aB hO8⟩
      have h6:=Lib.hid N8
      have h7:=Lib.hid R8
      clear N8 R8 hT8 hO8 gr8 L7 E7 R7 hT7 hO7 N7
      go_upto_region 12 with fail
      rw [HW8.out]
      clear z0 z1 z2 z3 z4 z5 z6 z7 f0 f1 f2 f3 f4 f5 f6 f7 p0 p1 p2 p3 p4 p5 p6 p7 d0 d1 HW8
      go_wp2
      go_roundw
      case rel=>exact ⟨k+1,y.at TB tb OB ob,l2,by omega,by go_num,HOK2,h5,h6,h7,b8,by rw [Hid,← HG.out,HY2.out]; rfl⟩
      case measure=>simp [intOf]; omega
     ·have hne:=qz hTe
      have hne3:(rp.toList != e.r.toList)=true:=by unfold bne; rw [hne]; rfl
      have HN2:Hid (kR=k):=by rw [Hid,HKR.out,← HG.out,HN.out hTe]
      clear HN HY hTe
      go_wp2
      refine bodyPost_ret (v:=.tuple #[O U k,.bool true]) (by simp [results,Tryz.results12,go_sem, *]) rfl (ex.mk HN2.out rfl rfl b7)
    ·have hk0:m.drop k = []:=List.drop_eq_nil_of_le (by omega)
     have HG':=HG.out
     rw [hk0,dw] at HG'
     have HN2:Hid (kR=k):=by rw [Hid,HKR.out,← HG']
     have hkm:k=m.length:=by omega
     have HKM:Hid ((k:Int)=(m.length:Int)):=by rw [Hid,hkm]
     clear hk0 HG' HG hkm
     go_wp2
     refine bodyPost_ret (v:=.tuple #[O U m.length,.bool true]) (by simp [results,Tryz.results12,go_sem, *]) rfl (ex.mk HN2.out HKM.out rfl hbr)
end Go.Proofs.YtoeoimhemojdeaaGreatDoor
