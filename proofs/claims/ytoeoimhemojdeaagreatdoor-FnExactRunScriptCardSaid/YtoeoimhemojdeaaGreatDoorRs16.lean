/- Rs16: the texts ExL ExU LogApp ScrP Crash MarkT TextMk StepCat ScrB ScrI ScrS OffHeld2, joined into one file. -/
import Derived.Laws.IdiomStrings
import Derived.Deep.RegionLawGrows
import Derived.Deep.DeepCutAuto
import Derived.Test.YtoeoimhemojdeaaGreatDoorRs01
import Derived.Test.YtoeoimhemojdeaaGreatDoorRs02
import Derived.Test.YtoeoimhemojdeaaGreatDoorRs03
import Derived.Test.YtoeoimhemojdeaaGreatDoorRs04
import Derived.Test.YtoeoimhemojdeaaGreatDoorRs07
import Derived.Test.YtoeoimhemojdeaaGreatDoorRs09
import Derived.Test.YtoeoimhemojdeaaGreatDoorRs12
import Derived.Test.YtoeoimhemojdeaaGreatDoorRs15

set_option linter.unusedVariables false
open Go.Value renaming int → O, slice → F, string → uk
open Go.IntKind renaming i64 → U

namespace Go.Proofs.YtoeoimhemojdeaaGreatDoor
open Go.RowKit
theorem bp.then {w w1 w' : World} {B g:Nat} {x:aL} {l:Lg} {R:Option (Oc × ByteArray)} {e:Ending} (hb:Below w.heap.size w w1) (hBw:B≤w.heap.size) (h:bp w1 B g x l R e w'):bp w B g x l R e w':=by
 rcases h with ⟨h1,h2,h3⟩ | ⟨z,r,h1,h2,h3,h4,h5,h6⟩
 ·exact .inl ⟨h1,h2,aq hb h3⟩
 ·exact .inr ⟨z,r,h1,h2,h3,(hb.mono hBw).trans h4,Nat.le_trans hb.size h5,fun j hj hne=>(h6 j (Nat.lt_of_lt_of_le hj hb.size) hne).trans (hb.block j hj)⟩
theorem bp.ofT {w w' : World} {B g:Nat} {x:aL} {l:Lg} {R:Option ByteArray} {e:Ending} (h:dq w R e w') (hCI:dp w B g x.c l) (hBw:B≤w.heap.size):bp w B g x l (R.map (x.c,·)) e w':=by
 obtain ⟨⟨s,rfl,h2⟩,h3⟩:=h
 cases R with
 | none=>exact .inl ⟨rfl,⟨s,rfl⟩,h3⟩
 | some r =>
  have:=h2 r rfl
  subst this
  exact .inr ⟨x.c,s,rfl,rfl,hCI.below h3,h3.mono hBw,h3.size,fun j hj _=>h3.block j hj⟩
theorem bp.form {w w' : World} {B g:Nat} {x:aL} {l:Lg} {R:Option (Oc × ByteArray)} {e:Ending} (h:bp w B g x l R e w'):∃ s b,e=.returned (.tuple #[uk s,.bool b]):=by
 rcases h with ⟨_,⟨s,h2⟩,_⟩ | ⟨z,r,_,h2,_⟩
 ·exact ⟨s,false,h2⟩
 ·exact ⟨r,true,h2⟩
theorem tf {m:List Int} {rest:List Value} {k:Nat} (h:k < m.length):(bn m++rest)[k]?=some (O U m[k]):=by
 rw [List.getElem?_append_left (by simpa using h),List.getElem?_map,List.getElem?_eq_getElem h]; rfl
set_option maxRecDepth 100000 in
set_option maxHeartbeats 8000000 in
theorem pI (x:aL) (l:Lg) (line:ByteArray) (g:Nat) (W0 w:World) (hL:ah w g 42 [F x.TA x.t.length x.tc,F x.OA x.o.length x.oc,O U x.got,O U x.sold,O U x.missed,uk l.D,uk l.P,O U l.n]) (hB:W0.heap.size≤g) (hb0:Below W0.heap.size W0 w)
  (hT:w.ownsRow W0.heap.size 104 2 (F x.TA x.t.length x.tc) x.t.length (x.t.flatMap ap.enc)) (hO:w.ownsRow W0.heap.size 147 3 (F x.OA x.o.length x.oc) x.o.length (x.o.flatMap ae.enc)) (G:bo x) (hs:line.size≤1000) (hLW:LW W0) :
  Calls Tryz.prog 52 #[.pointer (some ⟨g,0,none⟩),uk line] w (bp w W0.heap.size g x l (iq x line)):=by
 have hLw:=hLW.then hb0
 have hBw:W0.heap.size≤w.heap.size:=hb0.size
 have hR:aM w w.heap.size x:=⟨aA hT,aA hO⟩
 have hCI:dp w W0.heap.size g x.c l:=⟨x.TA,x.tc,x.OA,x.oc,hL,hT,hO⟩
 have hSP:=nD line 32 w (by omega) hLw
 have hpc:=gZ (b:=32) (n:=1000) (s:=bl line) (by rw [ao]; exact hs)
 have hpm:=gY (b:=32) (n:=1000) (s:=bl line) (by rw [ao]; exact hs)
 have HC0:=Lib.hid (fun h=>pz (x:=x) (line:=line) h)
 have HC1:=Lib.hid (fun ns h=>pA (x:=x) (line:=line) (ns:=ns) h)
 have HWD:Hid (wd (bl line) 0=⟨((aH 32 (bl line)).getD 0 []).toArray⟩):=rfl
 obtain ⟨ps,hps⟩ : ∃ ps,aH 32 (bl line)=ps:=⟨_,rfl⟩
 simp only [hps] at hSP hpc hpm HC0 HC1 HWD
 have HPT:=Lib.hid hpm
 obtain ⟨hp1,hp2⟩:=hpc
 obtain ⟨R,hRe⟩ : ∃ R,iq x line=R:=⟨_,rfl⟩
 rw [hRe] at HC0 HC1 ⊢
 obtain ⟨w0,hw0⟩ : ∃ w0,wd (bl line) 0=w0:=⟨_,rfl⟩
 rw [hw0] at HC1 HWD
 clear hps hpm hRe hw0 hT hO
 go_enter Tryz.func52,Tryz.ntmps52
 go_wp2_with fail
 refine hSP.mono ?_
 rintro e w3 ⟨rfl,L8,hb3⟩
 have S3:=Lib.hid (s6.mk (w:=w) (v:=F none 0 0) (m:=[]) (rest:=[]) hb3 (by rw [List.append_nil]; exact L8) (World.ownsRow_nil _ _ _ _))
 clear hb3 hSP L8
 obtain ⟨N1,hN1⟩ : ∃ N1,ps.length=N1+1:=⟨ps.length - 1,by omega⟩
 rw [hN1]
 generalize hg8:w.heap.size=g8 at S3 ⊢
 by_cases h0N:N1=0
 ·subst h0N
  go_wp2_with fail
  go_loopw [7,9,10,11,17] (fun o _ _ _ i wr=>i=O U 0∧o=F none 0 0∧Hid (s6 w wr g8 ps [] (F none 0 0) [])) (fun _ _ _ _ _ _=>0)
  case atStart=>exact ⟨rfl,rfl,S3⟩
  case round =>
   clear S3
   obtain ⟨rfl,rfl,HS⟩:=hrel
   have HND:dj (ps.drop 1)=some []:=by rw [List.drop_eq_nil_of_le (by omega)]; rfl
   obtain ⟨m,hmm⟩ : ∃ m:List Int,([] : List Int)=m:=⟨_,rfl⟩
   rw [hmm] at HS HND
   have e0:m.length=0:=by rw [← hmm]; rfl
   clear hmm
   have HNS:Hid (dj (ps.drop 1)=some m):=HND
   have HE:=Lib.hid (HC1.out m HNS.out)
   have S:=HS.out
   have bw:=S.bl
   have hLr:=hL.below bw hL.lt
   have hRr:=hR.then bw
   have LW8:=S.ws
   have hrow:=S.row
   have hCIr:=hCI.below bw
   have hltr:=(hLw.then bw).tab
   have hb0r:=hb0.trans (bw.mono hBw)
   have hBr:W0.heap.size≤wr.heap.size:=hb0r.size
   have c80:wr.cell? ⟨g8,0,none⟩=some (uk w0):=by
    rw [LW8.cell,HWD.out,ee (by omega:0 < ps.length)]; exact ff ps _ _ (by omega)
   have HB:=Lib.hid bw
   have HR1:=HE.out
   clear HC0 HC1 HWD HPT hCI hL hR hLw HE bw
   rw [mO e0] at HR1
   have hc:=nC x l w0 g wr hLr hRr G hltr
   subst HR1
   go_wp2_with fail
   refine hc.mono ?_
   rintro e w7 hG
   have hM:=bp.then HB.out hBw (bp.ofT hG hCIr hBr)
   obtain ⟨s,b,rfl⟩:=hM.form
   have HM:=Lib.hid hM
   clear hM hG
   go_wp2_with fail
   go_ret2
   exact HM.out
 ·have hN0:0 < N1:=by omega
  go_wp2_with fail
  go_loopw [7,9,10,11,17] (fun o _ _ _ i wr=>∃ (k:Nat) (A:Option Addr) (c:Nat) (m:List Int),k≤N1∧i=O U k∧o=F A m.length c∧m.length≤k∧Hid (s6 w wr g8 ps [] (F A m.length c) m)∧Hid (fE m (ps.drop (k+1))=dj (ps.drop 1))) (fun _ _ _ _ i _=>N1 - (intOf i).toNat)
  case atStart=>exact ⟨0,none,0,[],Nat.zero_le _,rfl,rfl,Nat.zero_le _,S3,lJ _⟩
  case round =>
   clear S3
   obtain ⟨k,A,c,m,hk,rfl,rfl,hmk,HS,HRN⟩:=hrel
   by_cases hlt:k < N1
   ·have hlp:k+1 < ps.length:=by omega
    have hlt2:(k:Int) < (N1:Int):=by omega
    have c0:wr.cell? ⟨g8,1+k,none⟩=some (uk ⟨(ps[k+1]'hlp).toArray⟩):=by
     rw [HS.out.ws.cell,Nat.add_comm 1 k]; exact ff ps _ _ hlp
    have ht:=HPT.out (ps[k+1]'hlp) (List.getElem_mem _)
    obtain ⟨t,hte⟩ : ∃ t:ByteArray,t=⟨(ps[k+1]'hlp).toArray⟩:=⟨_,rfl⟩
    have hbt:bl t=ps[k+1]'hlp:=by rw [hte,bK]
    rw [← hte] at c0
    have hzt:t.size≤1000:=by rw [← ao,hbt]; exact ht
    clear hte ht
    have HN0:Hid (cj (bl t)=none→dj (ps.drop 1)=none):=fun hn=>by
     rw [← HRN.out]; exact lK hlp (by rw [← hbt]; exact hn)
    have HN1:Hid (∀ n,cj (bl t)=some n→fE (m++[n]) (ps.drop (k+1+1))=dj (ps.drop 1)):=fun n hn=>by
     rw [← HRN.out]; exact (lL hlp (by rw [← hbt]; exact hn)).symm
    have hpi:=fun W hW=>oy t W (by omega) hW
    have hLr:=hLw.then HS.out.bl
    unfold iu at hpi
    obtain ⟨q,hq⟩ : ∃ q,cj (bl t)=q:=⟨_,rfl⟩
    rw [hq] at HN0 HN1 hpi
    clear hq hbt
    cases q with
    | none =>
     have HE:=HC0.out (HN0.out rfl)
     simp only [Option.isSome_none,Option.getD_none] at hpi
     rw [HE]
     clear HE
     go_wp2_with fail
     refine (hpi _ hLr).mono ?_
     rintro e w4 ⟨rfl,hb4⟩
     have b5:=Lib.hid (aq HS.out.bl hb4)
     clear hb4 HS HRN
     go_wp2_with fail
     go_ret2
     exact bp.no b5.out
    | some n =>
     have HN:=Lib.hid (HN1.out n rfl)
     simp only [Option.isSome_some,Option.getD_some] at hpi
     go_wp2_with fail
     refine (hpi _ hLr).mono ?_
     rintro e w4 ⟨rfl,hb4⟩
     have HS4:=Lib.hid (HS.out.then hb4)
     have HRW:=Lib.hid HS4.out.row
     have hsz:w.heap.size≤w4.heap.size:=HS4.out.bl.size
     go_wp2_with (at_builtin; refine bY (w0:=w4) rfl _ _ 100 rfl 3 _ 1 8 Tryz.underlying100 gV rfl (by omega) (by omega) w.heap.size _ _ _ rfl HRW #[O U n] 1 _ rfl (by first | rfl | exact Array.size_push _) rfl (by simp [Value.oneCell']) (by omega) hsz rfl rfl rfl rfl ?_; intro v6 w6 HO6 hg6 hb6)
     have HNEW:=Lib.hid (HS4.out.push (n:=n) HO6.out hg6 hb6)
     obtain ⟨A6,c6,hv6⟩:=av HO6.out
     subst hv6
     go_wp2
     go_roundw
     case rel=>exact ⟨k+1,A6,c6,m++[n],by omega,by go_num,by simp,by simp; omega,by rw [Hid]; simpa using HNEW.out,HN.out⟩
     case measure=>simp [intOf]; omega
   ·have hlt2 : ¬ (k:Int) < (N1:Int):=by omega
    have HND:dj (ps.drop 1)=some m:=by
     have h1:=HRN.out; rw [List.drop_eq_nil_of_le (by omega),mL] at h1; exact h1.symm
    have hlt0:=hL.lt
    have HNS:Hid (dj (ps.drop 1)=some m):=HND
    have HE:=Lib.hid (HC1.out m HNS.out)
    have S:=HS.out
    have bw:=S.bl
    have hLr:=hL.below bw hL.lt
    have hRr:=hR.then bw
    have LW8:=S.ws
    have hrow:=S.row
    have hCIr:=hCI.below bw
    have hltr:=(hLw.then bw).tab
    have hb0r:=hb0.trans (bw.mono hBw)
    have hBr:W0.heap.size≤wr.heap.size:=hb0r.size
    have c80:wr.cell? ⟨g8,0,none⟩=some (uk w0):=by
     rw [LW8.cell,HWD.out,ee (by omega:0 < ps.length)]; exact ff ps _ _ (by omega)
    have hpsN:0 < N1+1:=by omega
    have HB:=Lib.hid bw
    have HR1:=HE.out
    clear HC0 HC1 HWD HPT hCI hL hR hLw HE bw
    clear HRN
    by_cases e0:m.length=0
    ·have z0:((m.length:Int) == 0)=true:=by rw [e0]; rfl
     have z1:((m.length:Int) == 1)=false:=beq_false_of_ne (by omega)
     have z2:((m.length:Int) == 2)=false:=beq_false_of_ne (by omega)
     have z3:((m.length:Int) == 3)=false:=beq_false_of_ne (by omega)
     rw [mO e0] at HR1
     have hc:=nC x l w0 g wr hLr hRr G hltr
     subst HR1
     go_wp2_with fail
     refine hc.mono ?_
     rintro e w7 hG
     have hM:=bp.then HB.out hBw (bp.ofT hG hCIr hBr)
     obtain ⟨s,b,rfl⟩:=hM.form
     have HM:=Lib.hid hM
     clear hM hG
     go_wp2_with fail
     go_ret2
     exact HM.out
    by_cases e1:m.length=1
    ·have z0:((m.length:Int) == 0)=false:=beq_false_of_ne (by omega)
     have z1:((m.length:Int) == 1)=true:=by rw [e1]; rfl
     have z2:((m.length:Int) == 2)=false:=beq_false_of_ne (by omega)
     have z3:((m.length:Int) == 3)=false:=beq_false_of_ne (by omega)
     obtain ⟨gN,cN,rN,hv,hgN,LN,_⟩:=bH hrow (by omega)
     injection hv with ea eb ec
     subst ea; subst ec
     clear eb
     have hm0:(0:Int) < (m.length:Int):=by omega
     have hn0:0 < m.length:=by omega
     have d0n:wr.cell? ⟨gN,0,none⟩=some (O U (m[0]'hn0)):=by rw [LN.cell]; exact tf hn0
     rw [q8 e1 hn0] at HR1
     obtain ⟨a0,ha0⟩ : ∃ a,m[0]'hn0=a:=⟨_,rfl⟩
     rw [ha0] at d0n HR1
     clear ha0
     cases hq:gC x w0 a0 with
     | none =>
      have hc:∀ W,ah W g 42 [F x.TA x.t.length x.tc,F x.OA x.o.length x.oc,O U x.got,O U x.sold,O U x.missed,uk l.D,uk l.P,O U l.n]→aM W W.heap.size x→iR W→Calls Tryz.prog 98 #[.pointer (some ⟨g,0,none⟩),uk w0,O U a0] W fun e w'=>(∃ s,e=.returned (.tuple #[uk s,.bool false]))∧Below W.heap.size W w':=fun W hL hR hT=>by
       have:=q9 x l w0 a0 g W hL hR G hT
       rw [hq] at this
       exact this.mono fun _ _ ⟨⟨s,h1,_⟩,h2⟩=>⟨⟨s,h1⟩,h2⟩
      rw [hq] at HR1
      simp only [Option.map_none] at HR1
      clear hq
      subst HR1
      go_wp2_with fail
      refine am (fun _=>(fun W9=>Below wr.heap.size wr W9)) (fun _ w1 w2=>Below w1.heap.size w1 w2) (by kernel_rfl) (by kernel_rfl) (by kernel_rfl) (Below.refl _ _).drew ?_
      simp only [aw,Act.put,List.setIfInBounds_toArray,List.set_cons_zero,List.set_cons_succ,Nat.zero_add,Nat.reduceAdd]
      apply aa
      case h1 =>
       intro vs L9 w9 hG9 hC9 hB K9 hK9
       simp only [Act.put,sA,s0,s1] at hK9
       go_simp
       exact hK9 _ _ rfl hC9 (Below.refl _ _)
      apply aa
      case h1 =>
       intro vs L9 w9 hG9 hC9 hB K9 hK9
       simp only [Act.put,sA,s0,s1] at hK9
       go_simp
       exact hK9 _ _ rfl hC9 (Below.refl _ _)
      apply aa
      case h1 =>
       intro vs L9 w9 hG9 hC9 hB K9 hK9
       have d1:=fe hB 1
       simp only [d1] at hK9 ⊢
       simp only [Act.put,sA,s0,s1] at hK9
       go_simp
       exact hK9 _ _ rfl hC9 (Below.refl _ _)
      apply aa
      case h1 =>
       intro vs L9 w9 hG9 hC9 hB K9 hK9
       have d2:=fe hB 2
       simp only [d2] at hK9 ⊢
       have q0:w9.cell? ⟨g8,0,none⟩=some (uk w0):=(hC9.cell LW8.lt).trans c80
       simp only [Act.put,sA,s0,s1] at hK9
       go_simp
       exact hK9 _ _ rfl hC9 (Below.refl _ _)
      apply aa
      case h1 =>
       intro vs L9 w9 hG9 hC9 hB K9 hK9
       simp only [Act.put,sA,s0,s1] at hK9
       go_simp
       exact hK9 _ _ rfl hC9 (Below.refl _ _)
      apply aa
      case h1 =>
       intro vs L9 w9 hG9 hC9 hB K9 hK9
       have d4:=fe hB 4
       simp only [d4] at hK9 ⊢
       simp only [Act.put,sA,s0,s1] at hK9
       go_simp
       exact hK9 _ _ rfl hC9 (Below.refl _ _)
      apply aa
      case h1 =>
       intro vs L9 w9 hG9 hC9 hB K9 hK9
       have d5:=fe hB 5
       simp only [d5] at hK9 ⊢
       have q0:w9.cell? ⟨gN,0,none⟩=some (O U a0):=(hC9.cell LN.lt).trans d0n
       simp only [Act.put,sA,s0,s1] at hK9
       go_simp
       exact hK9 _ _ rfl hC9 (Below.refl _ _)
      refine ak [] (fun v _=>∃ s,v=.tuple #[uk s,.bool false]) ?_ (fun vs L9 w9 hG9 hC9 hB K9 hK9=>?_) ?_
      next =>
       intro i9 hi9 hb9 ha9 v w1 w2 hv hT9
       exact hv
      next =>
       have d0:=fe hB 0
       have d3:=fe hB 3
       have d6:=fe hB 6
       simp only [d0,d3,d6] at hK9 ⊢
       simp only [Act.put,sA,s0,s1] at hK9
       go_simp
       refine (hc w9 (hLr.below hC9 hLr.lt) (hRr.then hC9) (hltr.then hC9)).mono ?_
       rintro en w8 ⟨⟨s,rfl⟩,hb8⟩
       exact hK9 _ _ _ rfl ⟨s,rfl⟩ (hC9.trans (hb8.mono hC9.size)) (hb8)
      refine ak [] (fun v _=>∃ s,v=uk s) ?_ (fun vs L9 w9 hG9 hC9 hB K9 hK9=>?_) ?_
      next =>
       intro i9 hi9 hb9 ha9 v w1 w2 hv hT9
       exact hv
      next =>
       simp only [Act.put,sA,s0,s1] at hK9
       obtain ⟨s,e0⟩:=fs hB 7
       simp only [e0] at hK9 ⊢
       go_simp
       exact hK9 _ _ _ rfl ⟨s,rfl⟩ hC9 (Below.refl _ _)
      refine aa (.bool false) (fun vs L9 w9 hG9 hC9 hB K9 hK9=>?_) ?_
      next =>
       obtain ⟨s,e0⟩:=fs hB 7
       simp only [e0] at hK9 ⊢
       go_simp
       exact hK9 _ _ rfl hC9 (Below.refl _ _)
      refine ak [] (fun v _=>∃ s,v=uk s) ?_ (fun vs L9 w9 hG9 hC9 hB K9 hK9=>?_) ?_
      next =>
       intro i9 hi9 hb9 ha9 v w1 w2 hv hT9
       exact hv
      next =>
       simp only [Act.put,sA,s0,s1] at hK9
       obtain ⟨s,e0⟩:=fs hB 8
       simp only [e0] at hK9 ⊢
       go_simp
       exact hK9 _ _ _ rfl ⟨s,rfl⟩ hC9 (Below.refl _ _)
      apply aa
      case h1 =>
       intro vs L9 w9 hG9 hC9 hB K9 hK9
       have d9:=fe hB 9
       simp only [d9] at hK9 ⊢
       simp only [Act.put,sA,s0,s1] at hK9
       go_simp
       exact hK9 _ _ rfl hC9 (Below.refl _ _)
      refine ax fun vs L9 w9 hL9 hC9 hB=>?_
      obtain ⟨s,dl⟩:=hB 10 _ rfl rfl (by decide)
      have dm:=ag.eq (hB 11 _ rfl rfl (by decide))
      simp only [dl,dm]
      clear hB dl dm
      have HBB:=Lib.hid (aq HB.out hC9)
      go_wp2_with fail
      go_ret2
      exact bp.no HBB.out
     | some rp =>
      have hc:∀ W,ah W g 42 [F x.TA x.t.length x.tc,F x.OA x.o.length x.oc,O U x.got,O U x.sold,O U x.missed,uk l.D,uk l.P,O U l.n]→aM W W.heap.size x→iR W→Calls Tryz.prog 98 #[.pointer (some ⟨g,0,none⟩),uk w0,O U a0] W fun e w'=>e=.returned (.tuple #[uk rp,.bool true])∧Below W.heap.size W w':=fun W hL hR hT=>by
       have:=q9 x l w0 a0 g W hL hR G hT
       rw [hq] at this
       exact this.mono fun _ _ ⟨⟨s,h1,h3⟩,h2⟩=>⟨by rw [h1,h3 rp rfl]; rfl,h2⟩
      rw [hq] at HR1
      simp only [Option.map_some] at HR1
      clear hq
      subst HR1
      go_wp2_with fail
      refine am (fun _=>(fun W9=>Below wr.heap.size wr W9)) (fun _ w1 w2=>Below w1.heap.size w1 w2) (by kernel_rfl) (by kernel_rfl) (by kernel_rfl) (Below.refl _ _).drew ?_
      simp only [aw,Act.put,List.setIfInBounds_toArray,List.set_cons_zero,List.set_cons_succ,Nat.zero_add,Nat.reduceAdd]
      apply aa
      case h1 =>
       intro vs L9 w9 hG9 hC9 hB K9 hK9
       simp only [Act.put,sA,s0,s1] at hK9
       go_simp
       exact hK9 _ _ rfl hC9 (Below.refl _ _)
      apply aa
      case h1 =>
       intro vs L9 w9 hG9 hC9 hB K9 hK9
       simp only [Act.put,sA,s0,s1] at hK9
       go_simp
       exact hK9 _ _ rfl hC9 (Below.refl _ _)
      apply aa
      case h1 =>
       intro vs L9 w9 hG9 hC9 hB K9 hK9
       have d1:=fe hB 1
       simp only [d1] at hK9 ⊢
       simp only [Act.put,sA,s0,s1] at hK9
       go_simp
       exact hK9 _ _ rfl hC9 (Below.refl _ _)
      apply aa
      case h1 =>
       intro vs L9 w9 hG9 hC9 hB K9 hK9
       have d2:=fe hB 2
       simp only [d2] at hK9 ⊢
       have q0:w9.cell? ⟨g8,0,none⟩=some (uk w0):=(hC9.cell LW8.lt).trans c80
       simp only [Act.put,sA,s0,s1] at hK9
       go_simp
       exact hK9 _ _ rfl hC9 (Below.refl _ _)
      apply aa
      case h1 =>
       intro vs L9 w9 hG9 hC9 hB K9 hK9
       simp only [Act.put,sA,s0,s1] at hK9
       go_simp
       exact hK9 _ _ rfl hC9 (Below.refl _ _)
      apply aa
      case h1 =>
       intro vs L9 w9 hG9 hC9 hB K9 hK9
       have d4:=fe hB 4
       simp only [d4] at hK9 ⊢
       simp only [Act.put,sA,s0,s1] at hK9
       go_simp
       exact hK9 _ _ rfl hC9 (Below.refl _ _)
      apply aa
      case h1 =>
       intro vs L9 w9 hG9 hC9 hB K9 hK9
       have d5:=fe hB 5
       simp only [d5] at hK9 ⊢
       have q0:w9.cell? ⟨gN,0,none⟩=some (O U a0):=(hC9.cell LN.lt).trans d0n
       simp only [Act.put,sA,s0,s1] at hK9
       go_simp
       exact hK9 _ _ rfl hC9 (Below.refl _ _)
      refine aa (.tuple #[uk rp,.bool true]) (fun vs L9 w9 hG9 hC9 hB K9 hK9=>?_) ?_
      next =>
       have d0:=fe hB 0
       have d3:=fe hB 3
       have d6:=fe hB 6
       simp only [d0,d3,d6] at hK9 ⊢
       go_simp
       refine (hc w9 (hLr.below hC9 hLr.lt) (hRr.then hC9) (hltr.then hC9)).mono ?_
       rintro en w8 ⟨rfl,hb8⟩
       exact hK9 _ _ rfl (hC9.trans (hb8.mono hC9.size)) (hb8)
      apply aa
      case h1 =>
       intro vs L9 w9 hG9 hC9 hB K9 hK9
       have d7:=fe hB 7
       simp only [d7] at hK9 ⊢
       simp only [Act.put,sA,s0,s1] at hK9
       go_simp
       exact hK9 _ _ rfl hC9 (Below.refl _ _)
      apply aa
      case h1 =>
       intro vs L9 w9 hG9 hC9 hB K9 hK9
       have d7:=fe hB 7
       simp only [d7] at hK9 ⊢
       simp only [Act.put,sA,s0,s1] at hK9
       go_simp
       exact hK9 _ _ rfl hC9 (Below.refl _ _)
      apply aa
      case h1 =>
       intro vs L9 w9 hG9 hC9 hB K9 hK9
       have d8:=fe hB 8
       simp only [d8] at hK9 ⊢
       simp only [Act.put,sA,s0,s1] at hK9
       go_simp
       exact hK9 _ _ rfl hC9 (Below.refl _ _)
      apply aa
      case h1 =>
       intro vs L9 w9 hG9 hC9 hB K9 hK9
       have d9:=fe hB 9
       simp only [d9] at hK9 ⊢
       simp only [Act.put,sA,s0,s1] at hK9
       go_simp
       exact hK9 _ _ rfl hC9 (Below.refl _ _)
      refine ax fun vs L9 w9 hL9 hC9 hB=>?_
      have dl:=ag.eq (hB 10 _ rfl rfl (by decide))
      have dm:=ag.eq (hB 11 _ rfl rfl (by decide))
      simp only [dl,dm]
      clear hB dl dm
      have HBB:=Lib.hid (aq HB.out hC9)
      have HCC:=Lib.hid (hCIr.below hC9)
      go_wp2_with fail
      go_ret2
      exact bp.yes rfl HCC.out (HBB.out.mono hBw) HBB.out.size (fun j hj _=>HBB.out.block j hj)
    by_cases e2:m.length=2
    ·have z0:((m.length:Int) == 0)=false:=beq_false_of_ne (by omega)
     have z1:((m.length:Int) == 1)=false:=beq_false_of_ne (by omega)
     have z2:((m.length:Int) == 2)=true:=by rw [e2]; rfl
     have z3:((m.length:Int) == 3)=false:=beq_false_of_ne (by omega)
     obtain ⟨gN,cN,rN,hv,hgN,LN,_⟩:=bH hrow (by omega)
     injection hv with ea eb ec
     subst ea; subst ec
     clear eb
     have hm0:(0:Int) < (m.length:Int):=by omega
     have hn0:0 < m.length:=by omega
     have hc:=pH x l w0 (some ⟨gN,0,none⟩) c m (by omega) (by omega) g W0 wr hLr hB hb0r hRr (aA hrow) (by intro e; injection e with e; have h1:=hgN; have h2:=hlt0; simp only at e; omega) hLW.tab
     subst HR1
     rw [e2] at hc
     have HC:=Lib.hid hc
     clear hc
     go_upto_region 18 with fail
     go_wp2_with fail
     refine HC.out.mono ?_
     rintro e w7 hG
     have hM:=bp.then HB.out hBw hG
     obtain ⟨s,b,rfl⟩:=hM.form
     have HM:=Lib.hid hM
     clear hM hG
     go_wp2_with fail
     go_ret2
     exact HM.out
    by_cases e3:m.length=3
    ·have z0:((m.length:Int) == 0)=false:=beq_false_of_ne (by omega)
     have z1:((m.length:Int) == 1)=false:=beq_false_of_ne (by omega)
     have z2:((m.length:Int) == 2)=false:=beq_false_of_ne (by omega)
     have z3:((m.length:Int) == 3)=true:=by rw [e3]; rfl
     obtain ⟨gN,cN,rN,hv,hgN,LN,_⟩:=bH hrow (by omega)
     injection hv with ea eb ec
     subst ea; subst ec
     clear eb
     have hm0:(0:Int) < (m.length:Int):=by omega
     have hn0:0 < m.length:=by omega
     have hc:=pH x l w0 (some ⟨gN,0,none⟩) c m (by omega) (by omega) g W0 wr hLr hB hb0r hRr (aA hrow) (by intro e; injection e with e; have h1:=hgN; have h2:=hlt0; simp only at e; omega) hLW.tab
     subst HR1
     rw [e3] at hc
     have HC:=Lib.hid hc
     clear hc
     go_upto_region 18 with fail
     go_wp2_with fail
     refine HC.out.mono ?_
     rintro e w7 hG
     have hM:=bp.then HB.out hBw hG
     obtain ⟨s,b,rfl⟩:=hM.form
     have HM:=Lib.hid hM
     clear hM hG
     go_wp2_with fail
     go_ret2
     exact HM.out
    have z0:((m.length:Int) == 0)=false:=beq_false_of_ne (by omega)
    have z1:((m.length:Int) == 1)=false:=beq_false_of_ne (by omega)
    have z2:((m.length:Int) == 2)=false:=beq_false_of_ne (by omega)
    have z3:((m.length:Int) == 3)=false:=beq_false_of_ne (by omega)
    rw [pB (by omega)] at HR1
    subst HR1
    go_wp2_with fail
    go_ret2
    exact bp.no HB.out
def rc:Option (Oc × ByteArray)→ByteArray
 | none=>⟨#[63]⟩
 | some r=>if 200 < r.2.size then ⟨#[108,111,110,103]⟩ else r.2
theorem tN (x:aL) (line:ByteArray):le x line=rc (iq x line):=by unfold le; cases iq x line <;> rfl
theorem oA (x:aL) (line:ByteArray):pw x line=eM x (iq x line):=by unfold pw; cases iq x line <;> rfl
theorem qG (R:Option (Oc × ByteArray)):(rc R).size≤200:=by
 cases R with
 | none=>show (1:Nat)≤200; omega
 | some r =>
  unfold rc; simp only
  split
  ·show (4:Nat)≤200; omega
  ·omega
theorem mU {w w' : World} {g b:Nat} {t:TypeId} {cs:List Value} (h:∀ j,j < w.heap.size→j ≠ g→w'.heap[j]?=w.heap[j]?) (hL:ah w b t cs) (hne:b ≠ g):ah w' b t cs:=(h b hL.lt hne).trans hL
set_option maxRecDepth 100000 in
set_option maxHeartbeats 8000000 in
theorem sm (x:aL) (l:Lg) (line:ByteArray) (w:World) (h:aM w w.heap.size x) (tl:x.t.length≤1048576) (ol:x.o.length≤1048576) (hs:l.D.size+l.P.size≤2000000) (hsl:line.size≤1048576) (hLW:LW w) (hok:dK x l=false) :
  Calls Tryz.prog 16 #[aD x l,uk line] w (bP w x l line):=by
 have L1:=(ah.new w 42 #[F x.TA x.t.length x.tc,F x.OA x.o.length x.oc,O U x.got,O U x.sold,O U x.missed,uk l.D,uk l.P,O U l.n]).alloc (.cells #[F none 0 0,F none 0 0,O U 0,O U 0,O U 0,uk ⟨#[]⟩,uk ⟨#[]⟩,O U 0] 42)
 have L2:=ah.new1 w (.cells #[F x.TA x.t.length x.tc,F x.OA x.o.length x.oc,O U x.got,O U x.sold,O U x.missed,uk l.D,uk l.P,O U l.n] 42) 42 #[F none 0 0,F none 0 0,O U 0,O U 0,O U 0,uk ⟨#[]⟩,uk ⟨#[]⟩,O U 0]
 have b1:=(Below.refl w.heap.size w).alloc (Nat.le_refl _) (.cells #[F x.TA x.t.length x.tc,F x.OA x.o.length x.oc,O U x.got,O U x.sold,O U x.missed,uk l.D,uk l.P,O U l.n] 42)
 have b2:=b1.alloc b1.size (.cells #[F none 0 0,F none 0 0,O U 0,O U 0,O U 0,uk ⟨#[]⟩,uk ⟨#[]⟩,O U 0] 42)
 have hW:=h.up b2 (Nat.le_refl _)
 have hge:w.heap.size≤w.heap.size+1:=by omega
 clear b1 h
 go_enter Tryz.func16,Tryz.ntmps16
 go_wp2_with fail
 generalize ((w.alloc (.cells #[F x.TA x.t.length x.tc,F x.OA x.o.length x.oc,O U x.got,O U x.sold,O U x.missed,uk l.D,uk l.P,O U l.n] 42)).alloc (.cells #[F none 0 0,F none 0 0,O U 0,O U 0,O U 0,uk ⟨#[]⟩,uk ⟨#[]⟩,O U 0] 42))=W at L1 L2 b2 hW ⊢
 refine (dE x l W hW hs (hLW.then b2).tab).mono ?_
 rintro e W3 ⟨rfl,hb3⟩
 have K1:=L1.below hb3 L1.lt
 have K2:=L2.below hb3 L2.lt
 have b5:=b2.trans (hb3.mono b2.size)
 have hW3:=hW.then hb3
 clear hb3 L1 L2 b2 hW
 rw [hok]
 go_wp2_with fail
 refine (eS x l w.heap.size W3 K1 hW3 tl ol).mono ?_
 rintro e W9 ⟨v,rfl,⟨TA,tc,OA,oc,rfl,hT0,hO0⟩,hb9⟩
 have Q2:=K2.below hb9 K2.lt
 have b9:=b5.trans (hb9.mono b5.size)
 have hT3:=af hT0 b5.size
 have hO3:=af hO0 b5.size
 obtain ⟨z0,z1,z2,z3,z4,z5,z6,z7⟩:=cells8 Q2
 obtain ⟨f0,f1,f2,f3,f4,f5,f6,f7⟩:=frz8 Q2
 obtain ⟨hT4,hO4⟩:=dV (F TA x.c.t.length tc) (F OA x.c.o.length oc) (O U x.c.got) (O U x.c.sold) (O U x.c.missed) (uk l.D) (uk l.P) (O U l.n) Q2 hT3 hO3
 have bz:=Lib.hid (dY (g:=w.heap.size+1) (b9) hge (F TA x.c.t.length tc) (F OA x.c.o.length oc) (O U x.c.got) (O U x.c.sold) (O U x.c.missed) (uk l.D) (uk l.P) (O U l.n))
 have HT4:=Lib.hid hT4
 have HO4:=Lib.hid hO4
 clear K1 K2 Q2 b5 b9 hb9 hT0 hO0 hT3 hO3 hW3 hT4 hO4
 go_wp2_with fail
 refine bodyPost_ret (v:=.tuple #[.agg #[F TA x.c.t.length tc,F OA x.c.o.length oc,O U x.c.got,O U x.c.sold,O U x.c.missed,uk l.D,uk l.P,O U l.n],uk ⟨#[110,111]⟩]) (by simp [results,Tryz.results16,go_sem, *]) rfl (bP.mk (by unfold gD; rw [if_neg (by rw [hok]; exact Bool.false_ne_true)]) (by unfold eJ; rw [if_neg (by rw [hok]; exact Bool.false_ne_true)]) (by unfold fS; rw [if_neg (by rw [hok]; exact Bool.false_ne_true)]) ⟨TA,tc,OA,oc,rfl,HT4.out,HO4.out⟩ bz.out)
set_option maxRecDepth 100000 in
set_option maxHeartbeats 8000000 in
theorem qH (x:aL) (l:Lg) (line:ByteArray) (w:World) (h:aM w w.heap.size x) (tl:x.t.length≤1048576) (ol:x.o.length≤1048576) (hs:l.D.size+l.P.size≤2000000) (hsl:line.size≤1048576) (hLW:LW w) (hok:dK x l=true) (hrk:fu.ok ⟨line,⟨#[]⟩⟩=false) :
  Calls Tryz.prog 16 #[aD x l,uk line] w (bP w x l line):=by
 have L1:=(ah.new w 42 #[F x.TA x.t.length x.tc,F x.OA x.o.length x.oc,O U x.got,O U x.sold,O U x.missed,uk l.D,uk l.P,O U l.n]).alloc (.cells #[F none 0 0,F none 0 0,O U 0,O U 0,O U 0,uk ⟨#[]⟩,uk ⟨#[]⟩,O U 0] 42)
 have L2:=ah.new1 w (.cells #[F x.TA x.t.length x.tc,F x.OA x.o.length x.oc,O U x.got,O U x.sold,O U x.missed,uk l.D,uk l.P,O U l.n] 42) 42 #[F none 0 0,F none 0 0,O U 0,O U 0,O U 0,uk ⟨#[]⟩,uk ⟨#[]⟩,O U 0]
 have b1:=(Below.refl w.heap.size w).alloc (Nat.le_refl _) (.cells #[F x.TA x.t.length x.tc,F x.OA x.o.length x.oc,O U x.got,O U x.sold,O U x.missed,uk l.D,uk l.P,O U l.n] 42)
 have b2:=b1.alloc b1.size (.cells #[F none 0 0,F none 0 0,O U 0,O U 0,O U 0,uk ⟨#[]⟩,uk ⟨#[]⟩,O U 0] 42)
 have hW:=h.up b2 (Nat.le_refl _)
 have hge:w.heap.size≤w.heap.size+1:=by omega
 clear b1 h
 go_enter Tryz.func16,Tryz.ntmps16
 go_wp2_with fail
 generalize ((w.alloc (.cells #[F x.TA x.t.length x.tc,F x.OA x.o.length x.oc,O U x.got,O U x.sold,O U x.missed,uk l.D,uk l.P,O U l.n] 42)).alloc (.cells #[F none 0 0,F none 0 0,O U 0,O U 0,O U 0,uk ⟨#[]⟩,uk ⟨#[]⟩,O U 0] 42))=W at L1 L2 b2 hW ⊢
 refine (dE x l W hW hs (hLW.then b2).tab).mono ?_
 rintro e W3 ⟨rfl,hb3⟩
 have K1:=L1.below hb3 L1.lt
 have K2:=L2.below hb3 L2.lt
 have b5:=b2.trans (hb3.mono b2.size)
 have hW3:=hW.then hb3
 clear hb3 L1 L2 b2 hW
 rw [hok]
 go_wp2_with fail
 refine (eC ⟨line,⟨#[]⟩⟩ W3 (Nat.le_trans hsl (by decide)) (show (0:Nat)≤1000000000 by omega)).mono ?_
 rintro e W4 ⟨rfl,hb4⟩
 have N1:=K1.below hb4 K1.lt
 have N2:=K2.below hb4 K2.lt
 have b6:=b5.trans (hb4.mono b5.size)
 have hW4:=hW3.then hb4
 clear hb4 K1 K2 b5 hW3
 rw [hrk]
 go_wp2_with fail
 refine (eS x l w.heap.size W4 N1 hW4 tl ol).mono ?_
 rintro e W9 ⟨v,rfl,⟨TA,tc,OA,oc,rfl,hT0,hO0⟩,hb9⟩
 have Q2:=N2.below hb9 N2.lt
 have b9:=b6.trans (hb9.mono b6.size)
 have hT3:=af hT0 b6.size
 have hO3:=af hO0 b6.size
 obtain ⟨z0,z1,z2,z3,z4,z5,z6,z7⟩:=cells8 Q2
 obtain ⟨f0,f1,f2,f3,f4,f5,f6,f7⟩:=frz8 Q2
 obtain ⟨hT4,hO4⟩:=dV (F TA x.c.t.length tc) (F OA x.c.o.length oc) (O U x.c.got) (O U x.c.sold) (O U x.c.missed) (uk l.D) (uk l.P) (O U l.n) Q2 hT3 hO3
 have bz:=Lib.hid (dY (g:=w.heap.size+1) (b9) hge (F TA x.c.t.length tc) (F OA x.c.o.length oc) (O U x.c.got) (O U x.c.sold) (O U x.c.missed) (uk l.D) (uk l.P) (O U l.n))
 have HT4:=Lib.hid hT4
 have HO4:=Lib.hid hO4
 clear N1 N2 Q2 b6 b9 hb9 hT0 hO0 hT3 hO3 hW4 hT4 hO4
 go_wp2_with fail
 refine bodyPost_ret (v:=.tuple #[.agg #[F TA x.c.t.length tc,F OA x.c.o.length oc,O U x.c.got,O U x.c.sold,O U x.c.missed,uk l.D,uk l.P,O U l.n],uk ⟨#[98,97,100]⟩]) (by simp [results,Tryz.results16,go_sem, *]) rfl (bP.mk (by unfold gD; rw [if_pos hok,if_neg (by rw [hrk]; exact Bool.false_ne_true)]) (by unfold eJ; rw [if_pos hok,if_neg (by rw [hrk]; exact Bool.false_ne_true)]) (by unfold fS; rw [if_pos hok,if_neg (by rw [hrk]; exact Bool.false_ne_true)]) ⟨TA,tc,OA,oc,rfl,HT4.out,HO4.out⟩ bz.out)
set_option maxRecDepth 100000 in
set_option maxHeartbeats 8000000 in
theorem pJ (x:aL) (l:Lg) (line:ByteArray) (w:World) (h:aM w w.heap.size x) (tl:x.t.length≤1048576) (ol:x.o.length≤1048576) (hs:l.D.size+l.P.size≤2000000) (hsl:line.size≤1048576) (hLW:LW w) (hok:dK x l=true) (hrk:fu.ok ⟨line,⟨#[]⟩⟩=true) (hn:l.n=60) :
  Calls Tryz.prog 16 #[aD x l,uk line] w (bP w x l line):=by
 have hne:(l.n == 60)=true:=by rw [hn]; rfl
 have HN:=Lib.hid hn
 clear hn
 have L1:=(ah.new w 42 #[F x.TA x.t.length x.tc,F x.OA x.o.length x.oc,O U x.got,O U x.sold,O U x.missed,uk l.D,uk l.P,O U l.n]).alloc (.cells #[F none 0 0,F none 0 0,O U 0,O U 0,O U 0,uk ⟨#[]⟩,uk ⟨#[]⟩,O U 0] 42)
 have L2:=ah.new1 w (.cells #[F x.TA x.t.length x.tc,F x.OA x.o.length x.oc,O U x.got,O U x.sold,O U x.missed,uk l.D,uk l.P,O U l.n] 42) 42 #[F none 0 0,F none 0 0,O U 0,O U 0,O U 0,uk ⟨#[]⟩,uk ⟨#[]⟩,O U 0]
 have b1:=(Below.refl w.heap.size w).alloc (Nat.le_refl _) (.cells #[F x.TA x.t.length x.tc,F x.OA x.o.length x.oc,O U x.got,O U x.sold,O U x.missed,uk l.D,uk l.P,O U l.n] 42)
 have b2:=b1.alloc b1.size (.cells #[F none 0 0,F none 0 0,O U 0,O U 0,O U 0,uk ⟨#[]⟩,uk ⟨#[]⟩,O U 0] 42)
 have hW:=h.up b2 (Nat.le_refl _)
 have hge:w.heap.size≤w.heap.size+1:=by omega
 clear b1 h
 go_enter Tryz.func16,Tryz.ntmps16
 go_wp2_with fail
 generalize ((w.alloc (.cells #[F x.TA x.t.length x.tc,F x.OA x.o.length x.oc,O U x.got,O U x.sold,O U x.missed,uk l.D,uk l.P,O U l.n] 42)).alloc (.cells #[F none 0 0,F none 0 0,O U 0,O U 0,O U 0,uk ⟨#[]⟩,uk ⟨#[]⟩,O U 0] 42))=W at L1 L2 b2 hW ⊢
 refine (dE x l W hW hs (hLW.then b2).tab).mono ?_
 rintro e W3 ⟨rfl,hb3⟩
 have K1:=L1.below hb3 L1.lt
 have K2:=L2.below hb3 L2.lt
 have b5:=b2.trans (hb3.mono b2.size)
 have hW3:=hW.then hb3
 clear hb3 L1 L2 b2 hW
 rw [hok]
 go_wp2_with fail
 refine (eC ⟨line,⟨#[]⟩⟩ W3 (Nat.le_trans hsl (by decide)) (show (0:Nat)≤1000000000 by omega)).mono ?_
 rintro e W4 ⟨rfl,hb4⟩
 have N1:=K1.below hb4 K1.lt
 have N2:=K2.below hb4 K2.lt
 have b6:=b5.trans (hb4.mono b5.size)
 have hW4:=hW3.then hb4
 clear hb4 K1 K2 b5 hW3
 rw [hrk]
 obtain ⟨c0,c1,c2,c3,c4,c5,c6,c7⟩:=cells8 N1
 go_wp2_with fail
 refine (eS x l w.heap.size W4 N1 hW4 tl ol).mono ?_
 clear c0 c1 c2 c3 c4 c5 c6 c7
 rintro e W9 ⟨v,rfl,⟨TA,tc,OA,oc,rfl,hT0,hO0⟩,hb9⟩
 have Q2:=N2.below hb9 N2.lt
 have b9:=b6.trans (hb9.mono b6.size)
 have hT3:=af hT0 b6.size
 have hO3:=af hO0 b6.size
 obtain ⟨z0,z1,z2,z3,z4,z5,z6,z7⟩:=cells8 Q2
 obtain ⟨f0,f1,f2,f3,f4,f5,f6,f7⟩:=frz8 Q2
 obtain ⟨hT4,hO4⟩:=dV (F TA x.c.t.length tc) (F OA x.c.o.length oc) (O U x.c.got) (O U x.c.sold) (O U x.c.missed) (uk l.D) (uk l.P) (O U l.n) Q2 hT3 hO3
 have bz:=Lib.hid (dY (g:=w.heap.size+1) (b9) hge (F TA x.c.t.length tc) (F OA x.c.o.length oc) (O U x.c.got) (O U x.c.sold) (O U x.c.missed) (uk l.D) (uk l.P) (O U l.n))
 have HT4:=Lib.hid hT4
 have HO4:=Lib.hid hO4
 clear N1 N2 Q2 b6 b9 hb9 hT0 hO0 hT3 hO3 hW4 hT4 hO4
 go_wp2_with fail
 refine bodyPost_ret (v:=.tuple #[.agg #[F TA x.c.t.length tc,F OA x.c.o.length oc,O U x.c.got,O U x.c.sold,O U x.c.missed,uk l.D,uk l.P,O U l.n],uk ⟨#[102,117,108,108]⟩]) (by simp [results,Tryz.results16,go_sem, *]) rfl (bP.mk (by unfold gD; rw [if_pos hok,if_pos hrk,if_pos HN.out]) (by unfold eJ; rw [if_pos hok,if_pos hrk,if_pos HN.out]) (by unfold fS; rw [if_pos hok,if_pos hrk,if_pos HN.out]) ⟨TA,tc,OA,oc,rfl,HT4.out,HO4.out⟩ bz.out)
set_option maxRecDepth 100000 in
set_option maxHeartbeats 8000000 in
theorem qI (x:aL) (l:Lg) (line:ByteArray) (w:World) (h:aM w w.heap.size x) (tl:x.t.length≤1048576) (ol:x.o.length≤1048576) (hs:l.D.size+l.P.size≤2000000) (hsl:line.size≤1048576) (hLW:LW w) (hok:dK x l=true) (hrk:fu.ok ⟨line,⟨#[]⟩⟩=true) (hn : ¬ l.n=60) :
  Calls Tryz.prog 16 #[aD x l,uk line] w (bP w x l line):=by
 have hne:(l.n == 60)=false:=beq_false_of_ne hn
 have G:=jP hok
 have hl160:line.size≤1000:=by
  have h1:=(dt.1 hrk).2.1
  have h2:line.size≤160:=h1
  omega
 have HET:gD x l line=le x line:=by unfold gD; rw [if_pos hok,if_pos hrk,if_neg hn]
 have HEO:eJ x l line=pw x line:=by unfold eJ; rw [if_pos hok,if_pos hrk,if_neg hn]
 have HEL:fS x l line=fR l ⟨line,le x line⟩:=by unfold fS; rw [if_pos hok,if_pos hrk,if_neg hn]
 obtain ⟨R,hR⟩ : ∃ R,iq x line=R:=⟨_,rfl⟩
 have HRT:le x line=rc R:=by rw [← hR]; exact tN x line
 have HRO:pw x line=eM x R:=by rw [← hR]; exact oA x line
 obtain ⟨rep,hrep⟩ : ∃ rep,le x line=rep:=⟨_,rfl⟩
 have hrs:rep.size≤200:=by rw [← hrep,HRT]; exact qG R
 obtain ⟨l2,hl2⟩ : ∃ l2,fR l ⟨line,rep⟩=l2:=⟨_,rfl⟩
 have cA:=fun W hW=>mK l ⟨line,rep⟩ W hs (Nat.le_trans hl160 (by decide)) (Nat.le_trans hrs (by decide)) hW
 rw [hrep] at HET HEL HRT
 rw [hl2] at cA HEL
 have ET:=Lib.hid HET
 rw [HRO] at HEO
 have EO0:=Lib.hid HEO
 have EL:=Lib.hid HEL
 have HC:=Lib.hid hR
 clear hn HET HEO HEL HRO hrep hl2 hR
 have L1:=(ah.new w 42 #[F x.TA x.t.length x.tc,F x.OA x.o.length x.oc,O U x.got,O U x.sold,O U x.missed,uk l.D,uk l.P,O U l.n]).alloc (.cells #[F none 0 0,F none 0 0,O U 0,O U 0,O U 0,uk ⟨#[]⟩,uk ⟨#[]⟩,O U 0] 42)
 have L2:=ah.new1 w (.cells #[F x.TA x.t.length x.tc,F x.OA x.o.length x.oc,O U x.got,O U x.sold,O U x.missed,uk l.D,uk l.P,O U l.n] 42) 42 #[F none 0 0,F none 0 0,O U 0,O U 0,O U 0,uk ⟨#[]⟩,uk ⟨#[]⟩,O U 0]
 have b1:=(Below.refl w.heap.size w).alloc (Nat.le_refl _) (.cells #[F x.TA x.t.length x.tc,F x.OA x.o.length x.oc,O U x.got,O U x.sold,O U x.missed,uk l.D,uk l.P,O U l.n] 42)
 have b2:=b1.alloc b1.size (.cells #[F none 0 0,F none 0 0,O U 0,O U 0,O U 0,uk ⟨#[]⟩,uk ⟨#[]⟩,O U 0] 42)
 have hW:=h.up b2 (Nat.le_refl _)
 have hge:w.heap.size≤w.heap.size+1:=by omega
 clear b1 h
 go_enter Tryz.func16,Tryz.ntmps16
 go_wp2_with fail
 generalize ((w.alloc (.cells #[F x.TA x.t.length x.tc,F x.OA x.o.length x.oc,O U x.got,O U x.sold,O U x.missed,uk l.D,uk l.P,O U l.n] 42)).alloc (.cells #[F none 0 0,F none 0 0,O U 0,O U 0,O U 0,uk ⟨#[]⟩,uk ⟨#[]⟩,O U 0] 42))=W at L1 L2 b2 hW ⊢
 refine (dE x l W hW hs (hLW.then b2).tab).mono ?_
 rintro e W3 ⟨rfl,hb3⟩
 have K1:=L1.below hb3 L1.lt
 have K2:=L2.below hb3 L2.lt
 have b5:=b2.trans (hb3.mono b2.size)
 have hW3:=hW.then hb3
 clear hb3 L1 L2 b2 hW
 rw [hok]
 go_wp2_with fail
 refine (eC ⟨line,⟨#[]⟩⟩ W3 (Nat.le_trans hsl (by decide)) (show (0:Nat)≤1000000000 by omega)).mono ?_
 rintro e W4 ⟨rfl,hb4⟩
 have N1:=K1.below hb4 K1.lt
 have N2:=K2.below hb4 K2.lt
 have b6:=b5.trans (hb4.mono b5.size)
 have hW4:=hW3.then hb4
 clear hb4 K1 K2 b5 hW3
 rw [hrk]
 obtain ⟨c0,c1,c2,c3,c4,c5,c6,c7⟩:=cells8 N1
 go_wp2_with fail
 refine (eS x l w.heap.size W4 N1 hW4 tl ol).mono ?_
 rintro e W5 ⟨v,rfl,⟨TA,tc,OA,oc,rfl,hT0,hO0⟩,hb5⟩
 clear c0 c1 c2 c3 c4 c5 c6 c7
 go_upto_region 8 with fail
 have hal:=(Below.refl W5.heap.size W5).alloc (Nat.le_refl _) (.cells #[F TA x.c.t.length tc,F OA x.c.o.length oc,O U x.c.got,O U x.c.sold,O U x.c.missed,uk l.D,uk l.P,O U l.n] 42)
 have hb6:=aq hb5 hal
 have J1:=N1.below hb6 N1.lt
 have J2:=N2.below hb6 N2.lt
 have J6:=ah.new W5 42 #[F TA x.c.t.length tc,F OA x.c.o.length oc,O U x.c.got,O U x.c.sold,O U x.c.missed,uk l.D,uk l.P,O U l.n]
 have b7:=b6.trans (hb6.mono b6.size)
 have hT1:=af (ac hT0 hal) b6.size
 have hO1:=af (ac hO0 hal) b6.size
 have hg26:w.heap.size+1 < W5.heap.size:=Nat.lt_of_lt_of_le N2.lt hb5.size
 clear hal hb6 hb5 hT0 hO0 N1 N2 b6 hW4
 generalize W5.alloc (.cells #[F TA x.c.t.length tc,F OA x.c.o.length oc,O U x.c.got,O U x.c.sold,O U x.c.missed,uk l.D,uk l.P,O U l.n] 42)=W6 at J1 J2 J6 b7 hT1 hO1 ⊢
 generalize W5.heap.size=g6 at J6 hg26 ⊢
 have hg6:w.heap.size≤g6:=by omega
 have hXc:(x.c.at TA tc OA oc).c=x.c:=rfl
 have hrun:=pI (x.c.at TA tc OA oc) l line g6 w W6 J6 hg6 b7 hT1 hO1 (good_c hXc G) hl160 hLW
 rw [s7 hXc,HC.out] at hrun
 go_wp2_with fail
 refine hrun.mono ?_
 rintro e W7 hM
 clear hrun
 rcases hM with ⟨rfl,⟨s,rfl⟩,hb7⟩ | ⟨z,r,rfl,rfl,hCI,hb7,hs7,hk7⟩
 ·have K1:=J1.below hb7 J1.lt
  have K2:=J2.below hb7 J2.lt
  have K6:=J6.below hb7 J6.lt
  have b8:=b7.trans (hb7.mono b7.size)
  have hT8:=ac hT1 hb7
  have hO8:=ac hO1 hb7
  clear J1 J2 J6 b7 hT1 hO1 hb7
  have HEO0:=EO0.out
  change eJ x l line=x.c at HEO0
  change rep=⟨#[63]⟩ at HRT
  subst HRT
  clear EO0
  obtain ⟨y,hy⟩ : ∃ y,x.c=y:=⟨_,rfl⟩
  rw [hy] at K6 hT8 hO8 HEO0
  have EO:=Lib.hid HEO0
  clear HEO0
  obtain ⟨TB,hTB0⟩ : ∃ TB,TA=TB:=⟨_,rfl⟩
  obtain ⟨tb,htb0⟩ : ∃ tb,tc=tb:=⟨_,rfl⟩
  obtain ⟨OB,hOB0⟩ : ∃ OB,OA=OB:=⟨_,rfl⟩
  obtain ⟨ob,hob0⟩ : ∃ ob,oc=ob:=⟨_,rfl⟩
  rw [hTB0,htb0,hOB0,hob0] at K6
  rw [hTB0,htb0] at hT8
  rw [hOB0,hob0] at hO8
  clear hy hTB0 htb0 hOB0 hob0 hXc
  obtain ⟨cod,hcod⟩ : ∃ cod,ef l ⟨line,⟨#[63]⟩⟩=cod:=⟨_,rfl⟩
  rw [hcod] at cA
  clear hcod
  have htW:=(hLW.then b8).tab
  obtain ⟨c0,c1,c2,c3,c4,c5,c6,c7⟩:=cells8 K1
  go_wp2_with fail
  refine (cA W7 htW).mono ?_
  rintro e W9 ⟨rfl,hb9⟩
  have Q1:=K1.below hb9 K1.lt
  have Q2:=K2.below hb9 K2.lt
  have Q6:=K6.below hb9 K6.lt
  have b10:=b8.trans (hb9.mono b8.size)
  have hTA:=ac hT8 hb9
  have hOA:=ac hO8 hb9
  have gr9:W9.grownBy (((W9.setCell ⟨g6,5,none⟩ (uk l2.D)).setCell ⟨g6,6,none⟩ (uk l2.P)).setCell ⟨g6,7,none⟩ (O U l2.n)) (some g6):=ab (g:=g6) (i:=7) (u:=O U l2.n) (ab (g:=g6) (i:=6) (u:=uk l2.P) (ab (g:=g6) (i:=5) (u:=uk l2.D) (World.grownBy.refl W9 (some g6))))
  have hTB:=aj hTA Q6 fa gr9
  have hOB:=aj hOA Q6 fb gr9
  have R2:ah (((W9.setCell ⟨g6,5,none⟩ (uk l2.D)).setCell ⟨g6,6,none⟩ (uk l2.P)).setCell ⟨g6,7,none⟩ (O U l2.n)) (w.heap.size+1) 42 [F none 0 0,F none 0 0,O U 0,O U 0,O U 0,uk ⟨#[]⟩,uk ⟨#[]⟩,O U 0]:=(((Q2).other (p:=⟨g6,5,none⟩) (by simp only; omega) (uk l2.D)).other (p:=⟨g6,6,none⟩) (by simp only; omega) (uk l2.P)).other (p:=⟨g6,7,none⟩) (by simp only; omega) (O U l2.n)
  have R6:ah (((W9.setCell ⟨g6,5,none⟩ (uk l2.D)).setCell ⟨g6,6,none⟩ (uk l2.P)).setCell ⟨g6,7,none⟩ (O U l2.n)) g6 42 [F TB y.t.length tb,F OB y.o.length ob,O U y.got,O U y.sold,O U y.missed,uk l2.D,uk l2.P,O U l2.n]:=(((Q6).set 5 (uk l2.D)).set 6 (uk l2.P)).set 7 (O U l2.n)
  have b11:=(((b10).setCell (p:=⟨g6,5,none⟩) hg6 (uk l2.D)).setCell (p:=⟨g6,6,none⟩) hg6 (uk l2.P)).setCell (p:=⟨g6,7,none⟩) hg6 (O U l2.n)
  obtain ⟨z0,z1,z2,z3,z4,z5,z6,z7⟩:=cells8 Q6
  obtain ⟨f0,f1,f2,f3,f4,f5,f6,f7⟩:=frz8 Q6
  clear K1 K2 Q1 Q2 hb9 b8 b10 hTA hOA hT8 hO8 gr9 c0 c1 c2 c3 c4 c5 c6 c7
  go_upto_region 14 with fail
  clear K6 Q6 z0 z1 z2 z3 z4 z5 z6 z7 f0 f1 f2 f3 f4 f5 f6 f7
  generalize (((W9.setCell ⟨g6,5,none⟩ (uk l2.D)).setCell ⟨g6,6,none⟩ (uk l2.P)).setCell ⟨g6,7,none⟩ (O U l2.n))=WB at R2 R6 b11 hTB hOB ⊢
  obtain ⟨p0,p1,p2,p3,p4,p5,p6,p7⟩:=cells8 R6
  obtain ⟨z0,z1,z2,z3,z4,z5,z6,z7⟩:=cells8 R2
  obtain ⟨f0,f1,f2,f3,f4,f5,f6,f7⟩:=frz8 R2
  obtain ⟨hTC,hOC⟩:=dV (F TB y.t.length tb) (F OB y.o.length ob) (O U y.got) (O U y.sold) (O U y.missed) (uk l2.D) (uk l2.P) (O U l2.n) R2 hTB hOB
  have bz:=Lib.hid (dY (g:=w.heap.size+1) (b11) hge (F TB y.t.length tb) (F OB y.o.length ob) (O U y.got) (O U y.sold) (O U y.missed) (uk l2.D) (uk l2.P) (O U l2.n))
  have HTC:=Lib.hid hTC
  have HOC:=Lib.hid hOC
  clear R2 R6 b11 hTB hOB hTC hOC
  go_wp2_with fail
  refine bodyPost_ret (v:=.tuple #[.agg #[F TB y.t.length tb,F OB y.o.length ob,O U y.got,O U y.sold,O U y.missed,uk l2.D,uk l2.P,O U l2.n],uk ⟨#[63]⟩]) (by simp [results,Tryz.results16,go_sem, *]) rfl (bP.mk ET.out EO.out EL.out ⟨TB,tb,OB,ob,rfl,HTC.out,HOC.out⟩ bz.out)
 ·obtain ⟨TB,tb,OB,ob,K6,hT8,hO8⟩:=hCI
  have K1:=mU hk7 J1 (by omega)
  have K2:=mU hk7 J2 (by omega)
  have b8:=b7.trans hb7
  clear J1 J2 J6 b7 hT1 hO1 hb7 hk7
  have HEO0:=EO0.out
  change eJ x l line=z at HEO0
  change rep=(if 200 < r.size then ⟨#[108,111,110,103]⟩ else r) at HRT
  clear EO0
  obtain ⟨y,hy⟩ : ∃ y,z=y:=⟨_,rfl⟩
  rw [hy] at K6 hT8 hO8 HEO0
  have EO:=Lib.hid HEO0
  clear hy hXc HEO0
  by_cases hlong:200 < r.size
  ·have hlg:(200:Int) < (r.size:Int):=by omega
   rw [if_pos hlong] at HRT
   subst HRT
   obtain ⟨cod,hcod⟩ : ∃ cod,ef l ⟨line,⟨#[108,111,110,103]⟩⟩=cod:=⟨_,rfl⟩
   rw [hcod] at cA
   clear hcod
   have htW:=(hLW.then b8).tab
   obtain ⟨c0,c1,c2,c3,c4,c5,c6,c7⟩:=cells8 K1
   go_wp2_with fail
   refine (cA W7 htW).mono ?_
   rintro e W9 ⟨rfl,hb9⟩
   have Q1:=K1.below hb9 K1.lt
   have Q2:=K2.below hb9 K2.lt
   have Q6:=K6.below hb9 K6.lt
   have b10:=b8.trans (hb9.mono b8.size)
   have hTA:=ac hT8 hb9
   have hOA:=ac hO8 hb9
   have gr9:W9.grownBy (((W9.setCell ⟨g6,5,none⟩ (uk l2.D)).setCell ⟨g6,6,none⟩ (uk l2.P)).setCell ⟨g6,7,none⟩ (O U l2.n)) (some g6):=ab (g:=g6) (i:=7) (u:=O U l2.n) (ab (g:=g6) (i:=6) (u:=uk l2.P) (ab (g:=g6) (i:=5) (u:=uk l2.D) (World.grownBy.refl W9 (some g6))))
   have hTB:=aj hTA Q6 fa gr9
   have hOB:=aj hOA Q6 fb gr9
   have R2:ah (((W9.setCell ⟨g6,5,none⟩ (uk l2.D)).setCell ⟨g6,6,none⟩ (uk l2.P)).setCell ⟨g6,7,none⟩ (O U l2.n)) (w.heap.size+1) 42 [F none 0 0,F none 0 0,O U 0,O U 0,O U 0,uk ⟨#[]⟩,uk ⟨#[]⟩,O U 0]:=(((Q2).other (p:=⟨g6,5,none⟩) (by simp only; omega) (uk l2.D)).other (p:=⟨g6,6,none⟩) (by simp only; omega) (uk l2.P)).other (p:=⟨g6,7,none⟩) (by simp only; omega) (O U l2.n)
   have R6:ah (((W9.setCell ⟨g6,5,none⟩ (uk l2.D)).setCell ⟨g6,6,none⟩ (uk l2.P)).setCell ⟨g6,7,none⟩ (O U l2.n)) g6 42 [F TB y.t.length tb,F OB y.o.length ob,O U y.got,O U y.sold,O U y.missed,uk l2.D,uk l2.P,O U l2.n]:=(((Q6).set 5 (uk l2.D)).set 6 (uk l2.P)).set 7 (O U l2.n)
   have b11:=(((b10).setCell (p:=⟨g6,5,none⟩) hg6 (uk l2.D)).setCell (p:=⟨g6,6,none⟩) hg6 (uk l2.P)).setCell (p:=⟨g6,7,none⟩) hg6 (O U l2.n)
   obtain ⟨z0,z1,z2,z3,z4,z5,z6,z7⟩:=cells8 Q6
   obtain ⟨f0,f1,f2,f3,f4,f5,f6,f7⟩:=frz8 Q6
   clear K1 K2 Q1 Q2 hb9 b8 b10 hTA hOA hT8 hO8 gr9 c0 c1 c2 c3 c4 c5 c6 c7
   go_upto_region 14 with fail
   clear K6 Q6 z0 z1 z2 z3 z4 z5 z6 z7 f0 f1 f2 f3 f4 f5 f6 f7
   generalize (((W9.setCell ⟨g6,5,none⟩ (uk l2.D)).setCell ⟨g6,6,none⟩ (uk l2.P)).setCell ⟨g6,7,none⟩ (O U l2.n))=WB at R2 R6 b11 hTB hOB ⊢
   obtain ⟨p0,p1,p2,p3,p4,p5,p6,p7⟩:=cells8 R6
   obtain ⟨z0,z1,z2,z3,z4,z5,z6,z7⟩:=cells8 R2
   obtain ⟨f0,f1,f2,f3,f4,f5,f6,f7⟩:=frz8 R2
   obtain ⟨hTC,hOC⟩:=dV (F TB y.t.length tb) (F OB y.o.length ob) (O U y.got) (O U y.sold) (O U y.missed) (uk l2.D) (uk l2.P) (O U l2.n) R2 hTB hOB
   have bz:=Lib.hid (dY (g:=w.heap.size+1) (b11) hge (F TB y.t.length tb) (F OB y.o.length ob) (O U y.got) (O U y.sold) (O U y.missed) (uk l2.D) (uk l2.P) (O U l2.n))
   have HTC:=Lib.hid hTC
   have HOC:=Lib.hid hOC
   clear R2 R6 b11 hTB hOB hTC hOC
   go_wp2_with fail
   refine bodyPost_ret (v:=.tuple #[.agg #[F TB y.t.length tb,F OB y.o.length ob,O U y.got,O U y.sold,O U y.missed,uk l2.D,uk l2.P,O U l2.n],uk ⟨#[108,111,110,103]⟩]) (by simp [results,Tryz.results16,go_sem, *]) rfl (bP.mk ET.out EO.out EL.out ⟨TB,tb,OB,ob,rfl,HTC.out,HOC.out⟩ bz.out)
  ·have hlg : ¬ (200:Int) < (r.size:Int):=by omega
   rw [if_neg hlong] at HRT
   subst HRT
   obtain ⟨cod,hcod⟩ : ∃ cod,ef l ⟨line,rep⟩=cod:=⟨_,rfl⟩
   rw [hcod] at cA
   clear hcod
   have htW:=(hLW.then b8).tab
   obtain ⟨c0,c1,c2,c3,c4,c5,c6,c7⟩:=cells8 K1
   go_wp2_with fail
   refine (cA W7 htW).mono ?_
   rintro e W9 ⟨rfl,hb9⟩
   have Q1:=K1.below hb9 K1.lt
   have Q2:=K2.below hb9 K2.lt
   have Q6:=K6.below hb9 K6.lt
   have b10:=b8.trans (hb9.mono b8.size)
   have hTA:=ac hT8 hb9
   have hOA:=ac hO8 hb9
   have gr9:W9.grownBy (((W9.setCell ⟨g6,5,none⟩ (uk l2.D)).setCell ⟨g6,6,none⟩ (uk l2.P)).setCell ⟨g6,7,none⟩ (O U l2.n)) (some g6):=ab (g:=g6) (i:=7) (u:=O U l2.n) (ab (g:=g6) (i:=6) (u:=uk l2.P) (ab (g:=g6) (i:=5) (u:=uk l2.D) (World.grownBy.refl W9 (some g6))))
   have hTB:=aj hTA Q6 fa gr9
   have hOB:=aj hOA Q6 fb gr9
   have R2:ah (((W9.setCell ⟨g6,5,none⟩ (uk l2.D)).setCell ⟨g6,6,none⟩ (uk l2.P)).setCell ⟨g6,7,none⟩ (O U l2.n)) (w.heap.size+1) 42 [F none 0 0,F none 0 0,O U 0,O U 0,O U 0,uk ⟨#[]⟩,uk ⟨#[]⟩,O U 0]:=(((Q2).other (p:=⟨g6,5,none⟩) (by simp only; omega) (uk l2.D)).other (p:=⟨g6,6,none⟩) (by simp only; omega) (uk l2.P)).other (p:=⟨g6,7,none⟩) (by simp only; omega) (O U l2.n)
   have R6:ah (((W9.setCell ⟨g6,5,none⟩ (uk l2.D)).setCell ⟨g6,6,none⟩ (uk l2.P)).setCell ⟨g6,7,none⟩ (O U l2.n)) g6 42 [F TB y.t.length tb,F OB y.o.length ob,O U y.got,O U y.sold,O U y.missed,uk l2.D,uk l2.P,O U l2.n]:=(((Q6).set 5 (uk l2.D)).set 6 (uk l2.P)).set 7 (O U l2.n)
   have b11:=(((b10).setCell (p:=⟨g6,5,none⟩) hg6 (uk l2.D)).setCell (p:=⟨g6,6,none⟩) hg6 (uk l2.P)).setCell (p:=⟨g6,7,none⟩) hg6 (O U l2.n)
   obtain ⟨z0,z1,z2,z3,z4,z5,z6,z7⟩:=cells8 Q6
   obtain ⟨f0,f1,f2,f3,f4,f5,f6,f7⟩:=frz8 Q6
   clear K1 K2 Q1 Q2 hb9 b8 b10 hTA hOA hT8 hO8 gr9 c0 c1 c2 c3 c4 c5 c6 c7
   go_upto_region 14 with fail
   clear K6 Q6 z0 z1 z2 z3 z4 z5 z6 z7 f0 f1 f2 f3 f4 f5 f6 f7
   generalize (((W9.setCell ⟨g6,5,none⟩ (uk l2.D)).setCell ⟨g6,6,none⟩ (uk l2.P)).setCell ⟨g6,7,none⟩ (O U l2.n))=WB at R2 R6 b11 hTB hOB ⊢
   obtain ⟨p0,p1,p2,p3,p4,p5,p6,p7⟩:=cells8 R6
   obtain ⟨z0,z1,z2,z3,z4,z5,z6,z7⟩:=cells8 R2
   obtain ⟨f0,f1,f2,f3,f4,f5,f6,f7⟩:=frz8 R2
   obtain ⟨hTC,hOC⟩:=dV (F TB y.t.length tb) (F OB y.o.length ob) (O U y.got) (O U y.sold) (O U y.missed) (uk l2.D) (uk l2.P) (O U l2.n) R2 hTB hOB
   have bz:=Lib.hid (dY (g:=w.heap.size+1) (b11) hge (F TB y.t.length tb) (F OB y.o.length ob) (O U y.got) (O U y.sold) (O U y.missed) (uk l2.D) (uk l2.P) (O U l2.n))
   have HTC:=Lib.hid hTC
   have HOC:=Lib.hid hOC
   clear R2 R6 b11 hTB hOB hTC hOC
   go_wp2_with fail
   refine bodyPost_ret (v:=.tuple #[.agg #[F TB y.t.length tb,F OB y.o.length ob,O U y.got,O U y.sold,O U y.missed,uk l2.D,uk l2.P,O U l2.n],uk rep]) (by simp [results,Tryz.results16,go_sem, *]) rfl (bP.mk ET.out EO.out EL.out ⟨TB,tb,OB,ob,rfl,HTC.out,HOC.out⟩ bz.out)
theorem mV (x:aL) (l:Lg) (line:ByteArray) (w:World) (h:aM w w.heap.size x) (tl:x.t.length≤1048576) (ol:x.o.length≤1048576) (hs:l.D.size+l.P.size≤2000000) (hsl:line.size≤1048576) (hLW:LW w) :
  Calls Tryz.prog 16 #[aD x l,uk line] w (bP w x l line):=by
 cases hok:dK x l
 ·exact sm x l line w h tl ol hs hsl hLW hok
 ·cases hrk:fu.ok ⟨line,⟨#[]⟩⟩
  ·exact qH x l line w h tl ol hs hsl hLW hok hrk
  ·by_cases hn:l.n=60
   ·exact pJ x l line w h tl ol hs hsl hLW hok hrk hn
   ·exact qI x l line w h tl ol hs hsl hLW hok hrk hn
theorem qJ {n k:Nat} {c r:List UInt8} (h:gf c r=true):aW (n+1) k (cu k c r) = [((c,r),(cu k c r).length)]:=by
 have hb:dF 10 (cu k c r)=dZ (fj k c r):=by unfold cu; exact fi (tB h)
 have h1:(10:UInt8) ∈ cu k c r:=by unfold cu; simp
 have hl:(dZ (fj k c r)).length+1=(cu k c r).length:=by unfold cu; simp
 rw [dH h1 (by rw [hb]; exact kF ⟨h,rfl⟩),hb,hl,List.drop_eq_nil_of_le (Nat.le_refl _),eh (by simp)]
theorem nE {c r:List UInt8} (h:gf c r=true):∀ (n k:Nat) (s:List UInt8),dJ (aW n k s)=s.length→(aW n k s).length < n →
  aW n k (s++cu (k+(aW n k s).length) c r)=aW n k s++[((c,r),(cu (k+(aW n k s).length) c r).length)]
 | 0,_,_,_,h2=>absurd h2 (by omega)
 | n+1,k,s,h1,h2=>by
  by_cases hs:(10:UInt8) ∈ s
  ·cases hd:dG k (dF 10 s) with
   | none =>
    rw [es hd] at h1
    have:s = []:=List.eq_nil_of_length_eq_zero (by rw [← h1]; simp [dJ])
    rw [this] at hs; cases hs
   | some e =>
    have e1:=dr hs
    have hlen:(dF 10 s).length+1≤s.length:=by have:=congrArg List.length e1; simp at this; omega
    have ey:=dH (n:=n) hs hd
    rw [ey,fZ] at h1
    rw [ey,List.length_cons] at h2
    have ih:=nE h n (k+1) (s.drop ((dF 10 s).length+1)) (by rw [List.length_drop]; simp only at h1; omega) (by omega)
    have hk:k+(aW (n+1) k s).length=k+1+(aW n (k+1) (s.drop ((dF 10 s).length+1))).length:=by rw [ey,List.length_cons]; omega
    rw [hk]
    generalize cu (k+1+(aW n (k+1) (s.drop ((dF 10 s).length+1))).length) c r=x at ih ⊢
    have hb:dF 10 (s++x)=dF 10 s:=by
     rw (occs:=[1]) [e1]
     rw [List.append_assoc,List.cons_append]; exact fi (fT 10 s)
    rw [dH (by simp [hs]) (by rw [hb]; exact hd),hb,List.drop_append_of_le_length hlen,ih,ey]
    rfl
  ·have hn:aW (n+1) k s = []:=eh hs
   rw [hn] at h1
   have:s = []:=List.eq_nil_of_length_eq_zero (by rw [← h1]; simp [dJ])
   subst this
   rw [hn]
   simp only [List.length_nil,Nat.add_zero,List.nil_append]
   exact qJ h
noncomputable def tY (y:Oc) (l:Lg) (t:ByteArray):Oc:=eJ y.off l t
noncomputable def tZ (y:Oc) (l:Lg) (t:ByteArray):Lg:=fS y.off l t
noncomputable def ua (y:Oc) (l:Lg) (t:ByteArray):ByteArray:=gD y.off l t
noncomputable def sn (y:Oc) (l:Lg):Bool:=dK y.off l
theorem rd (x:aL) (l:Lg) (t:ByteArray):eJ x l t=tY x.c l t:=by cases x; rfl
theorem re (x:aL) (l:Lg) (t:ByteArray):fS x l t=tZ x.c l t:=by cases x; rfl
theorem rf (x:aL) (l:Lg) (t:ByteArray):gD x l t=ua x.c l t:=by cases x; rfl
theorem rg (x:aL) (l:Lg):dK x l=sn x.c l:=by cases x; rfl
theorem th {l:Lg} {e:fu} (hl:l.ok=true):(fR l e).ok=true:=by
 cases hr:e.ok with
 | false=>rw [(mI (by rw [hl,hr]; rfl)).1]; exact hl
 | true =>
  by_cases hn:l.n=60
  ·rw [(jQ (by rw [hl,hr]; rfl) hn).1]; exact hl
  ·obtain ⟨e1, -⟩:=kZ (show (l.ok && e.ok)=true by rw [hl,hr]; rfl) hn
   have hr:gf (bl e.c) (bl e.r)=true:=hr
   obtain ⟨q1,q2,q3⟩:=eV.1 hl
   have hle:=dL 60 0 (bl l.D++bl l.P)
   have hlen:(aW 60 0 (bl l.D++bl l.P)).length < 60:=by omega
   have hnn:l.n.toNat=(aW 60 0 (bl l.D++bl l.P)).length:=by omega
   have ha:=nE hr 60 0 (bl l.D++bl l.P) (by rw [q1,List.length_append]) hlen
   rw [Nat.zero_add] at ha
   obtain ⟨lb,hlb⟩ : ∃ lb:ByteArray,lb=⟨(cu l.n.toNat (bl e.c) (bl e.r)).toArray⟩:=⟨_,rfl⟩
   rw [← hlb] at e1
   rw [e1]
   have hbl:bl lb=cu (aW 60 0 (bl l.D++bl l.P)).length (bl e.c) (bl e.r):=by rw [hlb,bK (cu l.n.toNat (bl e.c) (bl e.r)),hnn]
   clear hlb
   have eP:bl (l.P++lb)=bl l.P++cu (aW 60 0 (bl l.D++bl l.P)).length (bl e.c) (bl e.r):=by rw [dP l.P lb,hbl]
   generalize hln:cu (aW 60 0 (bl l.D++bl l.P)).length (bl e.c) (bl e.r)=ln at ha eP hbl
   have hap:aW 60 0 (bl l.D++bl (l.P++lb))=aW 60 0 (bl l.D++bl l.P)++[((bl e.c,bl e.r),ln.length)]:=by
    rw [eP,← List.append_assoc]; exact ha
   have hlens:dJ (aW 60 0 (bl l.D++bl l.P)++[((bl e.c,bl e.r),ln.length)])=(bl l.D).length+((bl l.P).length+ln.length):=by
    have:dJ (aW 60 0 (bl l.D++bl l.P)++[((bl e.c,bl e.r),ln.length)])=dJ (aW 60 0 (bl l.D++bl l.P))+ln.length:=by simp [dJ]
    omega
   unfold Lg.ok
   rw [eV]
   simp only
   rw [hap]
   exact ⟨by rw [hlens,eP,List.length_append],q2,by rw [List.length_append,List.length_singleton]; omega⟩
theorem oB {y:Oc} {l:Lg} : sn y l=true ↔ y.good=true∧l.ok=true:=by
 unfold sn dK
 rw [Bool.and_eq_true]
 exact Iff.rfl
theorem rh {y:Oc} {l:Lg} (t:ByteArray) (h:sn y l=true):sn (tY y l t) (tZ y l t)=true:=by
 obtain ⟨h1,h2⟩:=oB.1 h
 have h1' : (y.off).c.good=true:=h1
 refine oB.2 ⟨?_, ?_⟩
 ·unfold tY eJ
  split
  ·split
   ·split
    ·exact h1
    ·rw [oA]; exact li h1' t
   ·exact h1
  ·exact h1
 ·unfold tZ fS
  split
  ·split
   ·split
    ·exact h2
    ·exact th h2
   ·exact h2
  ·exact h2
theorem ju {y:Oc} {l:Lg} (h:sn y l=true):y.t.length≤1048576∧y.o.length≤1048576∧l.D.size+l.P.size≤2000000:=by
 obtain ⟨h1,h2⟩:=oB.1 h
 have G:=jn h1
 have hs:=ls (eV.1 h2).1
 rw [ao,ao] at hs
 omega
noncomputable def ci:List (List UInt8)→Oc→Lg→List ByteArray→List ByteArray
 | [],_,_,acc=>acc
 | t :: ts,y,l,acc=>ci ts (tY y l ⟨t.toArray⟩) (tZ y l ⟨t.toArray⟩) (acc++[ua y l ⟨t.toArray⟩])
theorem jJ {ts:List (List UInt8)} {k:Nat} (h:k < ts.length) (y:Oc) (l:Lg) (acc:List ByteArray) :
  ci (ts.drop k) y l acc=ci (ts.drop (k+1)) (tY y l ⟨ts[k].toArray⟩) (tZ y l ⟨ts[k].toArray⟩) (acc++[ua y l ⟨ts[k].toArray⟩]):=by
 rw [List.drop_eq_getElem_cons h,ci]
theorem kA:∀ (ts:List (List UInt8)) (y:Oc) (l:Lg) (acc:List ByteArray),(ci ts y l acc).length=acc.length+ts.length
 | [],_,_,acc=>by simp [ci]
 | t :: ts,y,l,acc=>by rw [ci,kA ts]; simp; omega
noncomputable def dk (y:Oc) (l:Lg) (s:ByteArray):Bool:=sn y l && decide (s.size≤4000) && decide ((aH 10 (bl s)).length≤30)
noncomputable def eD (y:Oc) (l:Lg) (s:ByteArray):List ByteArray:=if dk y l s then ci (aH 10 (bl s)) y l [] else []
theorem pK (y:Oc) (l:Lg) (s:ByteArray):(eD y l s).length≤30:=by
 unfold eD
 split
 ·rename_i h
  unfold dk at h
  simp only [Bool.and_eq_true,decide_eq_true_eq] at h
  rw [kA]; simp; exact h.2
 ·exact Nat.zero_le _
theorem ll {W:World} {g:Nat} {l:List UInt8} {cap:Nat} (h:∀ j,j < l.length→W.cell? ⟨g,j,none⟩=some (.int .u8 ((l.getD j 0).toNat:Int))) :
  (convert 54 9 (F (some ⟨g,0,none⟩) l.length cap)).run Tryz.prog W=.ok (uk ⟨l.toArray⟩) W :=
 run_convert_bytes_back W 54 9 5 ⟨g,0,none⟩ cap l Tryz.underlying54 Tryz.underlying5 Tryz.underlying9 (fun j hj=>by
  have e:(⟨g,0,none⟩ : Addr).add j=⟨g,j,none⟩:=by unfold Addr.add; simp <;> exact fun h=>h.symm
  rw [e,h j hj,ee hj])
def qK (k:Nat):UInt8:=UInt8.ofNat (48+k % 10)
theorem ti (k:Nat):((qK k).toNat:Int)=48+(k:Int) % 10:=by
 unfold qK
 have h:48+k % 10 < 256:=by have:=Nat.mod_lt k (show 0 < 10 by omega); omega
 rw [UInt8.toNat_ofNat_of_lt' (by simpa using h)]; omega
def tj:Nat→Nat→List UInt8→List UInt8
 | 0,_,o=>o
 | f+1,k,o=>if k=0 then o else tj f (k / 10) (qK k :: o)
theorem tn:∀ (f:Nat) (o:List UInt8),tj f 0 o=o
 | 0,_=>rfl
 | f+1,o=>by simp [tj]
def tO (k:Nat):ByteArray:=⟨#[109]⟩++⟨(tj 10 k []).toArray⟩
set_option maxRecDepth 100000 in
set_option maxHeartbeats 1000000 in
theorem kB (k0:Nat) (w:World) (h0:1≤k0) (h1:k0≤100000000) :
  Calls Tryz.prog 60 #[O U (k0:Int)] w fun e w'=>e=.returned (uk (tO k0))∧Below w.heap.size w w':=by
 have HF:Hid (tj 10 k0 (bl ⟨#[]⟩)=tj 10 k0 []):=rfl
 have hkk:k0 < 10 ^ 10:=by omega
 have d0:decide ((k0:Int)≤0)=false:=decide_eq_false (by omega)
 have z0:(⟨#[109]⟩ : ByteArray).size=1:=rfl
 go_enter Tryz.func60,Tryz.ntmps60
 go_wp2
 go_loopw [0,3] (fun kk o wr=>∃ (f k:Nat) (x:ByteArray),f≤10∧kk=O U (k:Int)∧o=uk x∧k≤100000000∧x.size+f≤10∧Hid (k < 10 ^ f)∧Hid (tj f k (bl x)=tj 10 k0 [])∧(∃ q:an w.heap.size w,wr=q.val)) (fun kk _ _=>(intOf kk).toNat)
 case atStart=>exact ⟨10,k0,⟨#[]⟩,Nat.le_refl _,rfl,rfl,h1,by decide,hkk,HF,⟨an.start _ _,rfl⟩⟩
 case round =>
  obtain ⟨f,k,x,hf,rfl,rfl,hk,hx,HK,HR,⟨q,rfl⟩⟩:=hrel
  by_cases hpos:0 < k
  ·obtain ⟨f',rfl⟩ : ∃ f',f=f'+1:=by
    rcases f with _ | f'
    ·have h9:=HK.out; simp at h9; omega
    ·exact ⟨f',rfl⟩
   have HK2:Hid (k / 10 < 10 ^ f'):=Nat.div_lt_of_lt_mul (by rw [Nat.mul_comm,← Nat.pow_succ]; exact HK.out)
   have HR2:Hid (tj f' (k / 10) (qK k :: bl x)=tj 10 k0 []):=by
    have h9:=HR.out
    rw [tj,if_neg (by omega)] at h9; exact h9
   have e1:(k:Int).tdiv 10=(k:Int) / 10:=Int.tdiv_eq_ediv_of_nonneg (by omega)
   have e2:(k:Int).tmod 10=(k:Int) % 10:=Int.tmod_eq_emod_of_nonneg (by omega)
   have d1:decide (0 < (k:Int))=true:=decide_eq_true (by omega)
   have d2:decide (0 < k)=true:=decide_eq_true hpos
   have u1:(48:Int)+(k:Int) % 10≤57:=by omega
   have u2:(48:Int)≤48+(k:Int) % 10:=by omega
   have hb:=q.go' ((Below.refl w.heap.size q.val).alloc q.size (.cells #[.int .u8 (48+(k:Int) % 10)] 5))
   have hback0:=ll (W:=q.val.alloc (.cells #[.int .u8 (48+(k:Int) % 10)] 5)) (g:=q.val.heap.size) (l:=[qK k]) (cap:=1) (fun j hj=>by
    obtain rfl:j=0:=by simpa using hj
    have h9:=(ah.new q.val 5 #[.int .u8 (48+(k:Int) % 10)]).cell 0
    rw [h9]
    simp [ti])
   have hb9:=(Below.refl w.heap.size q.val).alloc q.size (.cells #[.int .u8 (48+(k:Int) % 10)] 5)
   obtain ⟨dg,hdg⟩ : ∃ dg:ByteArray,dg=⟨[qK k].toArray⟩:=⟨_,rfl⟩
   have hback1:(convert 54 9 (F (some ⟨q.val.heap.size,0,none⟩) 1 1)).run Tryz.prog (q.val.alloc (.cells #[.int .u8 (48+(k:Int) % 10)] 5))=.ok (uk dg) (q.val.alloc (.cells #[.int .u8 (48+(k:Int) % 10)] 5)):=by rw [hdg]; exact hback0
   have hdz:dg.size=1:=by rw [hdg]; rfl
   have HDG:Hid (bl (dg++x)=qK k :: bl x):=by rw [Hid,dP,hdg,bK]; rfl
   have HPos:=Lib.hid hpos
   clear hback0 hdg hpos
   go_wp2
   go_roundw
   case rel=>exact ⟨f',k / 10,dg++x,by omega,by go_num,rfl,by omega,by rw [eI]; omega,HK2,by rw [Hid,HDG.out]; exact HR2.out,⟨q.go' hb9,rfl⟩⟩
   case measure=>have h9:=HPos.out; simp [intOf]; omega
  ·obtain rfl:k=0:=by omega
   have HT:Hid (tO k0=⟨#[109]⟩++x):=by
    have h9:=HR.out
    rw [tn] at h9
    unfold tO Hid; rw [← h9]; first | rfl | (congr 1; exact (dQ rfl).symm)
   clear hpos
   go_wp2
   go_ret
   exact ⟨by rw [HT.out]; rfl,q.below⟩
abbrev lm (m:List ByteArray):List Value:=m.map Value.string
def ng (w:World) (B:Nat) (A:Option Addr) (m:List ByteArray):Prop:=aY w B 1 A m.length (lm m)
abbrev ib (w:World) (B:Nat) (A:Option Addr) (c:Nat) (m:List ByteArray):Prop:=w.ownsRow B 9 1 (F A m.length c) m.length (lm m)
theorem ib.reads {w:World} {B c:Nat} {A:Option Addr} {m:List ByteArray} (h:ib w B A c m):ng w w.heap.size A m:=(bM.of h).reads
theorem ng.then {w w' : World} {A:Option Addr} {m:List ByteArray} (h:ng w w.heap.size A m) (hb:Below w.heap.size w w'):ng w' w'.heap.size A m:=aY.then h hb
theorem tp (m:List ByteArray) (i:Nat) (h:i < m.length):(lm m)[i]?=some (uk m[i]):=by simp [lm,h]
theorem ng.cells {w:World} {B:Nat} {A:Option Addr} {m:List ByteArray} (h:ng w B A m) (hne:0 < m.length):∃ b off,A=some ⟨b,off,none⟩∧b < B∧∀ i (hi:i < m.length) (p:an B w),p.val.cell? ⟨b,off+i,none⟩=some (uk m[i]):=by
 obtain ⟨b,off,e,hb,hc⟩:=aY.at_ h hne
 exact ⟨b,off,e,hb,fun i hi p=>by rw [p.cell hb]; exact hc _ _ (tp m i hi)⟩
set_option maxHeartbeats 1000000 in
theorem jh (A A' : Option Addr) (c c' : Nat) (m:List ByteArray) (w:World) (hA:ng w w.heap.size A m) (hB:ng w w.heap.size A' m) :
  Calls Tryz.prog 22 #[F A m.length c,F A' m.length c'] w fun e w'=>e=.returned (.bool true)∧Below w.heap.size w w':=by
 have hl:=aY.big hA
 have hrA:=hA.cells
 have hrB:=hB.cells
 have hbn:((m.length:Int) != (m.length:Int))=false:=by simp
 go_enter Tryz.func22,Tryz.ntmps22
 go_wp2
 go_loopw [5] (fun i wr=>∃ k:Nat,k≤m.length∧i=O U k∧(∃ q:an w.heap.size w,wr=q.val)) (fun i _=>m.length - (intOf i).toNat)
 case atStart=>exact ⟨0,Nat.zero_le _,rfl,⟨an.start _ _,rfl⟩⟩
 case round =>
  obtain ⟨k,hk,rfl,⟨q,rfl⟩⟩:=hrel
  by_cases hlt:k < m.length
  ·obtain ⟨b,off,rfl,hb,hcell⟩:=hrA (by omega)
   obtain ⟨b',off',rfl,hb',hcell'⟩:=hrB (by omega)
   have c0:=hcell k hlt
   have d0:=hcell' k hlt
   obtain ⟨x,hxe⟩ : ∃ x,x=m[k]:=⟨_,rfl⟩
   rw [← hxe] at c0 d0
   have s0:(x.toList != x.toList)=false:=by simp
   clear hxe hcell hcell' hrA hrB
   go_wp2
   refine bf _ (by kernel_rfl) (by kernel_rfl) ?_
   repeat (any_goals (first | go_big_quiet_step ((fail)) | (refine wpQuiet_step (fun K hK=>?_); go_simp; split <;> (refine hK _ ?_; clear hK K))))
   all_goals (refine wpQuiet_nil ?_; rintro _ ⟨q1,rfl⟩)
   go_wp2
   go_roundw
   case rel=>exact ⟨k+1,by omega,by go_num,⟨q1,rfl⟩⟩
   case measure=>simp [intOf]; omega
  ·clear hrA hrB
   go_wp2
   go_ret
   exact ⟨rfl,q.below⟩
def da:Nat→List ByteArray→List ByteArray
 | _,[]=>[]
 | k,_ :: l=>tO k :: da (k+1) l
theorem fh:∀ (k:Nat) (l:List ByteArray),(da k l).length=l.length
 | _,[]=>rfl
 | k,x :: l=>by simp [da,fh (k+1) l]
theorem jT:∀ (k:Nat) (l:List ByteArray) (j:Nat) (h:j < (da k l).length),(da k l)[j]=tO (k+j)
 | k,[],j,h=>by simp [da] at h
 | k,x :: l,0,_=>by simp [da]
 | k,x :: l,j+1,h=>by
  simp only [da,List.getElem_cons_succ]
  rw [jT (k+1) l j (by simpa [da] using h)]
  have e:k+1+j=k+(j+1):=by omega
  rw [e]
theorem tq {M l:List ByteArray} {j:Nat} (hM:M.length=l.length) (h:j < l.length) (h' : j < M.length):(M.take j++l.drop j).set j M[j]=M.take (j+1)++l.drop (j+1):=by
 have e:(M.take j).length=j:=by rw [List.length_take]; omega
 rw [List.set_append_right _ _ (by omega),e,Nat.sub_self,List.drop_eq_getElem_cons h,List.set_cons_zero,List.take_succ_eq_append_getElem h',List.append_assoc,List.singleton_append]
theorem tP (l:List ByteArray) (i:Nat) (a:ByteArray):(lm l).set i (uk a)=lm (l.set i a):=by simp [lm,List.map_set]
set_option maxRecDepth 100000 in
set_option maxHeartbeats 4000000 in
theorem nh (B:Nat) (A:Option Addr) (c k0:Nat) (l:List ByteArray) (w:World) (hk:1≤k0) (hk' : k0≤1000) (hn:l.length≤1000) (h:ib w B A c l) :
  Calls Tryz.prog 23 #[F A l.length c,O U (k0:Int)] w fun e w'=>e=.returned (O U ((k0+l.length:Nat):Int))∧bM w' B 9 1 A l.length (lm (da k0 l))∧w.heap.size≤w'.heap.size∧Below B w w':=by
 have H0:Hid (w.ownsRow B 9 1 (F A l.length c) l.length (lm ((da k0 l).take 0++l.drop 0))):=h
 clear h
 go_enter Tryz.func23,Tryz.ntmps23
 go_wp2
 go_loopw [1,5] (fun kk i wr=>∃ (j:Nat),j≤l.length∧i=O U j∧kk=O U ((k0+j:Nat):Int)∧Hid (wr.ownsRow B 9 1 (F A l.length c) l.length (lm ((da k0 l).take j++l.drop j)))∧w.heap.size≤wr.heap.size∧Hid (Below B w wr)) (fun _ i _=>l.length - (intOf i).toNat)
 case atStart=>exact ⟨0,Nat.zero_le _,rfl,rfl,H0,Nat.le_refl _,Below.refl _ _⟩
 case round =>
  obtain ⟨j,hj,rfl,rfl,HR,hsz,HBe⟩:=hrel
  by_cases hlt:j < l.length
  ·have hmixl:((da k0 l).take j++l.drop j).length=l.length:=by simp [fh]; omega
   have h1:j < (da k0 l).length:=by rw [fh]; exact hlt
   have HFIN:=Lib.hid (tq (fh k0 l) hlt h1)
   rw [jT k0 l j h1] at HFIN
   obtain ⟨m,hme⟩ : ∃ m,m=(da k0 l).take j++l.drop j:=⟨_,rfl⟩
   obtain ⟨g,rfl⟩ : ∃ g,A=some ⟨g,0,none⟩:=by
    obtain ⟨_,h0 | ⟨g,cap,cur,hv,_⟩⟩:=HR.out
    ·have:=h0.2; omega
    ·injection hv with e1 e2 e3; exact ⟨g,e1⟩
   rw [← hme] at HR HFIN hmixl
   clear hme h1
   obtain ⟨kj,hkj⟩ : ∃ kj,kj=k0+j:=⟨_,rfl⟩
   have hkb:1≤kj:=by omega
   have hkc:kj≤10000:=by omega
   rw [← hkj] at HFIN ⊢
   have HKJ:=Lib.hid hkj; clear hkj
   have hgB:B≤g:=(HR.out.lt g rfl).1
   have M1:=Lib.hid (fun W=>kB kj W hkb (by omega))
   go_wp2_with fail
   refine (M1.out _).mono ?_
   rintro e w1 ⟨rfl,hb1⟩
   have R1:=ac HR.out hb1
   have hv0:(lm m)[j]?=some (uk (m[j]'(by omega))):=tp m j (by omega)
   have hlm:m.length=l.length:=hmixl
   obtain ⟨y,c0⟩ : ∃ y,w1.cell? ⟨g,j,none⟩=some (uk y):=⟨_,by rw [R1.cellAt _ (by omega)]; exact hv0⟩
   have f0:w1.frozen? ⟨g,j,none⟩=false:=R1.frozenAt _
   obtain ⟨R2,_⟩:=R1.stored j (uk (tO kj))
   rw [tP,HFIN.out] at R2
   have HR2:=Lib.hid R2
   have hB2:Hid (Below B w (w1.setCell ⟨g,j,none⟩ (uk (tO kj)))):=(HBe.out.trans (hb1.mono (Nat.le_trans hgB (Nat.le_of_lt (HR.out.lt g rfl).2)))).setCell (p:=⟨g,j,none⟩) hgB _
   have hs2:w.heap.size≤(w1.setCell ⟨g,j,none⟩ (uk (tO kj))).heap.size:=by have:=hb1.size; simp; omega
   clear R1 R2 HR HBe hv0 hlm hmixl
   go_wp2_with fail
   go_roundw
   case rel=>exact ⟨j+1,by omega,by go_num,congrArg _ (by have:=HKJ.out; omega),HR2,hs2,hB2⟩
   case measure=>simp [intOf]; omega
  ·have HJ:Hid ((da k0 l).take j++l.drop j=da k0 l):=by
    rw [Hid,List.drop_eq_nil_of_le (by omega),List.take_of_length_le (by rw [fh]; omega),List.append_nil]
   obtain rfl:j=l.length:=by omega
   go_wp2
   go_ret
   exact ⟨by simp,bM.of (by rw [← HJ.out]; exact HR.out),hsz,HBe.out⟩
set_option maxRecDepth 100000 in
set_option maxHeartbeats 4000000 in
theorem ni (A:Option Addr) (c k0:Nat) (l:List ByteArray) (w:World) (hk:1≤k0) (hk' : k0≤1000) (hn:l.length≤1000) (h:aY w w.heap.size 1 A l.length (lm (da k0 l))) :
  Calls Tryz.prog 24 #[F A l.length c,O U (k0:Int)] w fun e w'=>e=.returned (O U ((k0+l.length:Nat):Int))∧Below w.heap.size w w':=by
 have hml:=fh k0 l
 have hrd:=ng.cells (w:=w) (B:=w.heap.size) (A:=A) (m:=da k0 l) (by unfold ng; rw [hml]; exact h)
 clear h
 go_enter Tryz.func24,Tryz.ntmps24
 go_wp2
 go_loopw [1,5] (fun kk i wr=>∃ (j:Nat),j≤l.length∧i=O U j∧kk=O U ((k0+j:Nat):Int)∧(∃ q:an w.heap.size w,wr=q.val)) (fun _ i _=>l.length - (intOf i).toNat)
 case atStart=>exact ⟨0,Nat.zero_le _,rfl,rfl,⟨an.start _ _,rfl⟩⟩
 case round =>
  obtain ⟨j,hj,rfl,rfl,⟨q,rfl⟩⟩:=hrel
  by_cases hlt:j < l.length
  ·obtain ⟨b,off,rfl,hb,hcell⟩:=hrd (by omega)
   have c0:=hcell j (by omega)
   rw [jT k0 l j (by omega)] at c0
   obtain ⟨kj,hkj⟩ : ∃ kj,kj=k0+j:=⟨_,rfl⟩
   have hkb:1≤kj:=by omega
   have hkc:kj≤10000:=by omega
   rw [← hkj] at c0 ⊢
   have HKJ:=Lib.hid hkj; clear hkj
   have M1:=Lib.hid (fun W=>kB kj W hkb (by omega))
   generalize tO kj=t0 at c0 M1
   have s0:(t0.toList != t0.toList)=false:=by simp
   clear hcell hrd hml
   go_wp2
   refine bf _ (by kernel_rfl) (by kernel_rfl) ?_
   repeat (any_goals (first | go_big_quiet_step ((go_at_call 60; refine aK (Nat.le_refl _) (M1.out _))) | (refine wpQuiet_step (fun K hK=>?_); go_simp; split <;> (refine hK _ ?_; clear hK K))))
   all_goals (refine wpQuiet_nil ?_; rintro _ ⟨q1,rfl⟩)
   go_wp2
   go_roundw
   case rel=>exact ⟨j+1,by omega,by go_num,congrArg _ (by have:=HKJ.out; omega),⟨q1,rfl⟩⟩
   case measure=>simp [intOf]; omega
  ·obtain rfl:j=l.length:=by omega
   clear hrd
   go_wp2
   go_ret
   exact ⟨by simp,q.below⟩
theorem ri:(Tryz.prog.info? 9).map (fun i=>(i.zero,i.size,i.bytes))=some (some (uk ⟨#[]⟩),1,16):=by kernel_rfl
theorem rj:9 ≠ 42:=by decide
theorem tt {w0 w:World} {B g:Nat} {t:TypeId} {x0 x1 x2 x3 x4 x5 x6 x7:Value} (hL:ah w g t [x0,x1,x2,x3,x4,x5,x6,x7]) (b:Below B w0 w) (hB:B≤g) (a0 a1 a2 a3 a4 a5 a6 a7:Value) :
  ∃ W' : World,Hid ((((((((w.setCell ⟨g,0,none⟩ a0).setCell ⟨g,1,none⟩ a1).setCell ⟨g,2,none⟩ a2).setCell ⟨g,3,none⟩ a3).setCell ⟨g,4,none⟩ a4).setCell ⟨g,5,none⟩ a5).setCell ⟨g,6,none⟩ a6).setCell ⟨g,7,none⟩ a7=W')∧ah W' g t [a0,a1,a2,a3,a4,a5,a6,a7]∧Below B w0 W'∧w.grownBy W' (some g) :=
 ⟨_,rfl,oo hL a0 a1 a2 a3 a4 a5 a6 a7,dY b hB a0 a1 a2 a3 a4 a5 a6 a7,ab (ab (ab (ab (ab (ab (ab (ab (World.grownBy.refl w (some g)))))))))⟩
def dR (w:World) (m:List ByteArray) (ok:Bool) (e:Ending) (w' : World):Prop:=∃ A c,e=.returned (.tuple #[F A m.length c,.bool ok])∧ib w' w.heap.size A c m∧Below w.heap.size w w'
theorem dR.mk {w w' : World} {m m' : List ByteArray} {ok ok' : Bool} {A:Option Addr} {c n:Nat} (hm:m=m') (ho:ok=ok') (hn:m'.length=n) (h:ib w' w.heap.size A c m') (hb:Below w.heap.size w w'):dR w m ok (.returned (.tuple #[F A n c,.bool ok'])) w':=by
 subst hm; subst ho; subst hn; exact ⟨A,c,rfl,h,hb⟩
theorem tu {y:Oc} {l:Lg} {s:ByteArray} (h:sn y l=false ∨ 4000 < s.size ∨ 30 < (aH 10 (bl s)).length):dk y l s=false∧eD y l s = []:=by
 have key:dk y l s=false:=by
  unfold dk
  rcases h with h | h | h
  ·rw [h]; rfl
  ·rw [decide_eq_false (show ¬ s.size≤4000 by omega),Bool.and_false,Bool.false_and]
  ·rw [decide_eq_false (show ¬ (aH 10 (bl s)).length≤30 by omega),Bool.and_false]
 exact ⟨key,by unfold eD; rw [key]; rfl⟩
theorem rk {y:Oc} {l:Lg} {s:ByteArray} (h:sn y l=true) (h1:s.size≤4000) (h2:(aH 10 (bl s)).length≤30):dk y l s=true∧eD y l s=ci (aH 10 (bl s)) y l []:=by
 have key:dk y l s=true:=by
  unfold dk
  rw [h,decide_eq_true h1,decide_eq_true h2]; rfl
 exact ⟨key,by unfold eD; rw [key]; rfl⟩
theorem tw (m:List ByteArray) (t:ByteArray):lm m++[uk t]=lm (m++[t]):=by simp [lm]
theorem ib.push {w:World} {B n:Nat} {m:List ByteArray} {t:ByteArray} {v:Value} (h:w.ownsRow B 9 1 v (n+1) (lm m++[uk t])) (hn:m.length=n):∃ A c,v=F A (n+1) c∧ib w B A c (m++[t]):=by
 obtain ⟨A,c,rfl⟩:=av h
 refine ⟨A,c,rfl, ?_⟩
 unfold ib
 rw [show (m++[t]).length=n+1 by rw [List.length_append,hn]; rfl,← tw]; exact h
theorem tz {w:World} {B:Nat} {e:TypeId} {k:Nat} {v:Value} {n:Nat} {xs:List Value} (h:w.ownsRow B e k v n xs) {g:Nat} (hg:v.ownBlock=some g):∃ cs,ah w g e cs:=by
 obtain ⟨_,⟨h0,_⟩ | ⟨g',cap,cur,hv,_,hh,_⟩⟩:=h
 ·subst h0; cases hg
 ·subst hv; injection hg with hg; subst hg; exact ⟨_,ah.of hh⟩
def kC (w:World) (B:Nat) (A:Option Addr) (c:Nat) (m:List ByteArray):Prop:=ib w B A c m ∨ (m = []∧c=0∧∃ g,A=some ⟨g,0,none⟩)
theorem kC.below {w w' : World} {B:Nat} {A:Option Addr} {c:Nat} {m:List ByteArray} (h:kC w B A c m) (hb:Below w.heap.size w w'):kC w' B A c m:=by
 rcases h with h | h
 ·exact .inl (ac h hb)
 ·exact .inr h
theorem kC.kept {w w' : World} {B:Nat} {A:Option Addr} {c:Nat} {m:List ByteArray} (h:kC w B A c m) {g:Nat} {t:TypeId} {cs:List Value} (hL:ah w g t cs) (hne:9 ≠ t) (hg:w.grownBy w' (some g)):kC w' B A c m:=by
 rcases h with h | h
 ·exact .inl (aj h hL hne hg)
 ·exact .inr h
structure t6 (w:World) (B:Nat) (row:Option Nat):Prop where
 lt:∀ b,row=some b→B≤b∧b < w.heap.size
 far:∀ (g:Nat) (t:TypeId) (cs:List Value),9 ≠ t→ah w g t cs→some g ≠ row
theorem t6.own {w w' : World} {B:Nat} {row:Option Nat} (h:t6 w B row) (hg:w.grownBy w' row) {B' : Nat} {e:TypeId} {k:Nat} {v:Value} {n:Nat} {xs:List Value} (ho:w.ownsRow B' e k v n xs) (hne:9 ≠ e):w'.ownsRow B' e k v n xs:=by
 refine ho.kept hg ?_
 cases hv:v.ownBlock with
 | none=>exact .inl rfl
 | some g =>
  obtain ⟨cs,hL⟩:=tz ho hv
  exact .inr (h.far g e cs hne hL)
theorem kD {ops:Array Oper} {rest:List Oper} {o:Oper} {a:Act} {w0 wA:World} {Q:Exit→Act→World→Prop} (hgd:o.guard=none) (s x:Operand)
  (ho:o.op=.call { callee:=.builtin .append,args:=#[s,x],argTypes:=#[49,49] })
  (B:Nat) (A:Option Addr) (c n:Nat) (m:List ByteArray) (hs:a.eval s=F A n c) (hn:m.length=n) (hown:Hid (kC w0 B A c m)) (t:ByteArray)
  (cx g:Nat) (hx:a.eval x=F (some ⟨g,0,none⟩) 1 cx) (hg:w0.heap.size=g) (hn2:n < 1000000) (hbase:B≤w0.heap.size)
  (hheap:wA.heap=(w0.alloc (.cells #[uk t] 9)).heap) (hos:wA.os=w0.os) (htape:wA.tape=w0.tape) (hout:wA.output=w0.output)
  (h:∀ A' c' w' row,Hid (ib w' B A' c' (m++[t]))→w0.grownBy w' row→t6 w0 B row→Below B w0 w'→wpList Tryz.prog ops Q rest (a.put o.dst (F A' (n+1) c')) w'):wpList Tryz.prog ops Q (o :: rest) a wA:=by
 subst hn
 rcases hown.out with ht | ⟨rfl,rfl,g1,rfl⟩
 ·refine bY (w0:=w0) hgd s x _ ho 9 _ 1 16 Tryz.underlying49 ri rfl (by omega) (by omega) B _ _ _ hs (Lib.hid ht) #[uk t] cx g hx hg rfl (by simp [Value.oneCell']) (by omega) hbase hheap hos htape hout ?_
  intro v' w' h1 h2 h3
  obtain ⟨A',c',rfl,h4⟩:=ib.push h1.out rfl
  exact h A' c' w' _ (Lib.hid h4) h2 ⟨fun b hb=>ht.lt b hb,fun g t cs hne hL=>dB ht hL hne⟩ h3
 ·subst hg
  obtain ⟨i,hi,hz,hs',hb⟩:=info_parts ri
  have hsize:wA.heap.size=w0.heap.size+1:=by rw [hheap]; exact Array.size_push _
  have hblock:∀ j,j < w0.heap.size→wA.heap[j]?=w0.heap[j]?:=fun j hj=>by rw [hheap]; exact Below.heap_alloc w0 _ j hj
  refine wpList_plain hgd fun _ hK=>?_
  have key:=fun K Q' hh=>Go.step_append_grows (P:=Tryz.prog) (ops:=#[]) (a:=a) (w:=wA) (K:=K) (Q:=Q') (E:=True) hgd s x _ ho 9 i _ 1 16 Tryz.underlying49 hi hz hs' hb rfl (by omega) (some ⟨g1,0,none⟩) 0 0 [] hs (by simp) (by simp) (by simp) ⟨w0.heap.size,0,none⟩ 1 cx [uk t] hx rfl (fun j u hj=>by
   have:=kN w0 #[uk t] 9 j u hj
   rw [← this]; exact World.cell?_of_block (by rw [hheap])) (by simp [Value.oneCell']) (by omega) (by unfold maxLen; omega) (by omega) hh
  have hwt:Region.wanted o (yielded (#[] : Array Oper) a.tmps)=true:=by simp [Region.wanted,hgd]
  simp only [hwt,if_true] at key
  refine key _ _ fun v' w' h1 h2=>?_
  rw [Nat.zero_add,List.nil_append] at h1
  obtain ⟨A',c',rfl⟩:=av h1
  have gr:w0.grownBy w' none:=⟨h2.os.trans hos,h2.tape.trans htape,h2.output.trans hout,by have:=h2.size; omega,fun j hj _=>(h2.block j (by omega) (by simp)).trans (hblock j hj)⟩
  exact hK _ _ (h A' c' w' none (Lib.hid (af h1 (by omega))) gr ⟨fun b hb=>(by cases hb),fun _ _ _ _ _=>by simp⟩ ((Below.refl B w0).grown gr hbase (fun j hj=>by cases hj)))
set_option maxRecDepth 100000 in
set_option maxHeartbeats 8000000 in
theorem pL (x:aL) (l:Lg) (s:ByteArray) (w:World) (h:aM w w.heap.size x) (tl:x.t.length≤1048576) (ol:x.o.length≤1048576) (hs:l.D.size+l.P.size≤2000000) (hsl:s.size≤1048576) (hLW:LW w) :
  Calls Tryz.prog 21 #[aD x l,uk s] w (dR w (eD x.c l s) (dk x.c l s)):=by
 have b0:=(Below.refl w.heap.size w).alloc (Nat.le_refl _) (.cells #[F x.TA x.t.length x.tc,F x.OA x.o.length x.oc,O U x.got,O U x.sold,O U x.missed,uk l.D,uk l.P,O U l.n] 42)
 have L0:=ah.new w 42 #[F x.TA x.t.length x.tc,F x.OA x.o.length x.oc,O U x.got,O U x.sold,O U x.missed,uk l.D,uk l.P,O U l.n]
 have hW:=h.up b0 (Nat.le_refl _)
 have hL0:=hLW.then b0
 have SP:=fun W hL=>nD s 10 W (by omega) hL
 have VA:=fun W hW hL=>dE x l W hW hs (LW.tab hL)
 rw [rg] at VA
 have hpc:=gZ (b:=10) (n:=1048576) (s:=bl s) (by rw [ao]; exact hsl)
 have hpm:=gY (b:=10) (n:=1048576) (s:=bl s) (by rw [ao]; exact hsl)
 have SN:=Lib.hid (fun h=>tu (y:=x.c) (l:=l) (s:=s) h)
 have SY:=Lib.hid (fun h h1 h2=>rk (y:=x.c) (l:=l) (s:=s) h h1 h2)
 have HSm:=Lib.hid (fun h=>ju (y:=x.c) (l:=l) h)
 obtain ⟨ps,hps⟩ : ∃ ps,aH 10 (bl s)=ps:=⟨_,rfl⟩
 simp only [hps] at SP hpc hpm SN SY
 have HPM:=Lib.hid hpm
 obtain ⟨hp1,hp2⟩:=hpc
 obtain ⟨mR,hmR⟩ : ∃ mR,eD x.c l s=mR:=⟨_,rfl⟩
 obtain ⟨oR,hoR⟩ : ∃ oR,dk x.c l s=oR:=⟨_,rfl⟩
 rw [hmR,hoR] at SN SY ⊢
 clear hps hpm hmR hoR
 obtain ⟨ov,hov⟩ : ∃ ov,sn x.c l=ov:=⟨_,rfl⟩
 rw [hov] at SN SY VA HSm
 have HOV:=Lib.hid hov
 clear hov
 go_enter Tryz.func21,Tryz.ntmps21
 go_wp2_with fail
 generalize w.alloc (.cells #[F x.TA x.t.length x.tc,F x.OA x.o.length x.oc,O U x.got,O U x.sold,O U x.missed,uk l.D,uk l.P,O U l.n] 42)=W at b0 L0 hW hL0 ⊢
 refine (SP W hL0).mono ?_
 rintro e w1 ⟨rfl,LT,hb1⟩
 have L1:=L0.below hb1 L0.lt
 have hW1:=hW.then hb1
 have hL1:=hL0.then hb1
 have b1:=b0.trans (hb1.mono b0.size)
 have hgp:w.heap.size < W.heap.size:=L0.lt
 generalize W.heap.size=gp at LT hgp ⊢
 have LT0:∃ rest,ah w1 gp 9 (dn ps++rest):=⟨[],by rw [List.append_nil]; exact LT⟩
 obtain ⟨rest,LT1⟩:=LT0
 clear LT L0 hW hL0 b0 hb1 SP
 obtain ⟨cp,hcp⟩ : ∃ cp,cp=ps.length:=⟨_,rfl⟩
 obtain ⟨z0,z1,z2,z3,z4,z5,z6,z7⟩:=cells8 L1
 go_wp2_with fail
 refine (VA w1 hW1 hL1).mono ?_
 rintro e w2 ⟨rfl,hb2⟩
 have L2:=L1.below hb2 L1.lt
 have hW2:=hW1.then hb2
 have b2:=b1.trans (hb2.mono b1.size)
 have LT2:=LT1.below hb2 LT1.lt
 have hL2:=hL1.then hb2
 clear hL1
 clear L1 hW1 b1 LT1 hb2 VA z0 z1 z2 z3 z4 z5 z6 z7
 cases ov
 ·have HN:=SN.out (.inl rfl)
  clear SN SY HSm
  go_wp2
  refine bodyPost_ret (v:=.tuple #[F none 0 0,.bool false]) (by simp [results,Tryz.results21,go_sem, *]) rfl (dR.mk HN.2 HN.1 rfl (World.ownsRow_nil _ _ _ _) b2)
 ·by_cases hl30:ps.length≤30
  ·by_cases hs4:s.size≤4000
   ·have HN:=SY.out rfl hs4 hl30
    have HS:=HSm.out rfl
    obtain ⟨hN1,hN2⟩:=HN
    have HN2:=Lib.hid hN2
    have HN1:=Lib.hid hN1
    clear SN SY HSm hN1 hN2 tl ol hs
    obtain ⟨tl,ol,hs⟩:=HS
    have hs4' : ¬ (4000:Int) < (s.size:Int):=by omega
    have hl30' : ¬ (30:Int) < (ps.length:Int):=by omega
    have H0:Hid (ci (ps.drop 0) x.c l []=ci ps x.c l []):=rfl
    have HI0:Hid (kC w2 (gp+1) none 0 []):=.inl (World.ownsRow_nil _ _ _ _)
    have hgp2:gp < w2.heap.size:=LT2.lt
    have HW0:=Lib.hid hW2
    have HL0:=Lib.hid L2
    have HT0:=Lib.hid LT2
    clear hW2 L2 LT2
    go_wp2_with fail
    go_loopw [7,9,10,11,29] (fun out _ _ _ i wr=>∃ (k:Nat) (X:aL) (l1:Lg) (acc:List ByteArray) (A7:Option Addr) (c7:Nat),k≤ps.length∧i=O U k∧out=F A7 acc.length c7∧Hid (acc.length=k)∧Hid (sn X.c l1=true)∧Hid (aM wr wr.heap.size X)∧Hid (ah wr w.heap.size 42 [F X.TA X.t.length X.tc,F X.OA X.o.length X.oc,O U X.got,O U X.sold,O U X.missed,uk l1.D,uk l1.P,O U l1.n])∧Hid (kC wr (gp+1) A7 c7 acc)∧Hid (ah wr gp 9 (dn ps++rest))∧Below w.heap.size w wr∧Hid (ci (ps.drop k) X.c l1 acc=ci ps x.c l [])) (fun _ _ _ _ i _=>ps.length - (intOf i).toNat)
    case atStart=>exact ⟨0,x,l,[],none,0,Nat.zero_le _,rfl,rfl,rfl,HOV,HW0,HL0,HI0,HT0,b2,H0⟩
    case round =>
     clear b2 HI0 HW0 HL0 HT0 H0 hs ol tl
     obtain ⟨k,X,l1,acc,A7,c7,hk,rfl,rfl,hak,HOK,HX,HL,HI,HT,hbr,HR⟩:=hrel
     have hakb:acc.length≤30:=by have:=hak.out; omega
     by_cases hlt:k < ps.length
     ·have hq0:=HT.out.cell k
      rw [ff ps rest k hlt] at hq0
      have HST:=Lib.hid (jJ hlt X.c l1 acc)
      have hln:=HPM.out _ (List.getElem_mem hlt)
      obtain ⟨ln,hle⟩ : ∃ ln:ByteArray,ln=⟨(ps[k]).toArray⟩:=⟨_,rfl⟩
      have hlz:ln.size≤1048576:=by rw [hle]; show (ps[k]).toArray.size≤_; rw [List.size_toArray]; exact hln
      rw [← hle] at hq0 HST
      clear hln
      have HS:=ju HOK.out
      obtain ⟨htl,hol,hdp⟩:=HS
      have L3:=HL.out
      have hX:=HX.out
      have hgL:=L3.lt
      have hgT:=HT.out.lt
      have EX:=mV X l1 ln wr hX htl hol hdp hlz (hLW.then hbr)
      have eT:=rf X l1 ln
      have eO:=rd X l1 ln
      have eL:=re X l1 ln
      clear hle
      obtain ⟨z0,z1,z2,z3,z4,z5,z6,z7⟩:=cells8 L3
      go_wp2_with fail
      refine EX.mono ?_
      rintro e w3 ⟨v,rfl,hv,hb3⟩
      rw [eT]
      rw [eO,eL] at hv
      have HOK2:=Lib.hid (rh ln HOK.out)
      generalize hrp:ua X.c l1 ln=rp at HST ⊢
      generalize tY X.c l1 ln=y at hv HST HOK2
      generalize tZ X.c l1 ln=l2 at hv HST HOK2
      clear eT eO eL EX hrp HOK
      obtain ⟨TA,tc,OA,oc,rfl,hT0,hO0⟩:=hv
      have hal:=(Below.refl w3.heap.size w3).alloc (Nat.le_refl _) (.cells #[F TA y.t.length tc,F OA y.o.length oc,O U y.got,O U y.sold,O U y.missed,uk l2.D,uk l2.P,O U l2.n] 42)
      have P:=ah.new w3 42 #[F TA y.t.length tc,F OA y.o.length oc,O U y.got,O U y.sold,O U y.missed,uk l2.D,uk l2.P,O U l2.n]
      have hb34:=aq hb3 hal
      have L4:=L3.below hb34 L3.lt
      have hI4:=HI.out.below hb34
      have hT4:=HT.out.below hb34 HT.out.lt
      have hR1:=ac hT0 hal
      have hR2:=ac hO0 hal
      have b4:=hbr.trans (hb34.mono hbr.size)
      clear hal hb34 hT0 hO0 HT HI HL HX L3 hX z0 z1 z2 z3 z4 z5 z6 z7 hq0
      go_upto_region 9 with fail
      generalize hw4:w3.alloc (.cells #[F TA y.t.length tc,F OA y.o.length oc,O U y.got,O U y.sold,O U y.missed,uk l2.D,uk l2.P,O U l2.n] 42)=w4 at P L4 hI4 hT4 hR1 hR2 b4 ⊢
      have hg2:wr.heap.size≤w3.heap.size:=hb3.size
      clear hw4 hb3
      generalize w3.heap.size=g2 at P hg2 ⊢
      obtain ⟨p0,p1,p2,p3,p4,p5,p6,p7⟩:=cells8 P
      obtain ⟨z0,z1,z2,z3,z4,z5,z6,z7⟩:=cells8 L4
      obtain ⟨f0,f1,f2,f3,f4,f5,f6,f7⟩:=frz8 L4
      obtain ⟨w5,HW5,N5,b5,gr5⟩:=tt (g:=w.heap.size) L4 b4 (Nat.le_refl _) (F TA y.t.length tc) (F OA y.o.length oc) (O U y.got) (O U y.sold) (O U y.missed) (uk l2.D) (uk l2.P) (O U l2.n)
      have hI5:=hI4.kept L4 rj gr5
      have hT5:=hT4.kept gr5 (by intro e; injection e with e; omega)
      have hR1:=aj hR1 L4 fa gr5
      have hR2:=aj hR2 L4 fb gr5
      go_upto_region 10 with fail
      rw [HW5.out]
      clear HW5 P L4 hI4 hT4 b4 gr5 p0 p1 p2 p3 p4 p5 p6 p7 z0 z1 z2 z3 z4 z5 z6 z7 f0 f1 f2 f3 f4 f5 f6 f7
      have HI5:=Lib.hid hI5
      have hz5:gp+1≤w5.heap.size:=hT5.lt
      have hak5:acc.length < 1000000:=by omega
      go_wp2_with (at_builtin; refine kD (w0:=w5) rfl _ _ rfl (gp+1) A7 c7 acc.length acc rfl rfl HI5 rp 1 _ rfl (by first | rfl | exact Array.size_push _) hak5 hz5 rfl rfl rfl rfl ?_; intro A8 c8 w6 row HO6 gr6 HRW hb6)
      have b6:=b5.trans (hb6.mono (Nat.le_of_lt (Nat.lt_succ_of_lt hgp)))
      have hRT:=HRW.own gr6 hR1 (by decide)
      have hRO:=HRW.own gr6 hR2 (by decide)
      have h5:Hid (aM w6 w6.heap.size (y.at TA tc OA oc)):=⟨aA hRT,aA hRO⟩
      have h6:=Lib.hid (N5.kept gr6 (HRW.far _ _ _ rj N5))
      have h7:=Lib.hid (hT5.kept gr6 (fun e=>by have:=(HRW.lt _ e.symm).1; omega))
      have h8:Hid (kC w6 (gp+1) A8 c8 (acc++[rp])):=.inl HO6.out
      have hl8:(acc++[rp]).length=acc.length+1:=by rw [List.length_append]; rfl
      clear gr6 hb6 hI5 HO6 hT5 hR1 hR2 N5 b5 HI5 hRT hRO HRW
      go_wp2
      go_roundw
      case rel=>exact ⟨k+1,y.at TA tc OA oc,l2,acc++[rp],A8,c8,by omega,by go_num,by rw [hl8],by rw [Hid,hl8,hak.out],HOK2,h5,h6,h8,h7,b6,by rw [Hid,← HR.out,HST.out]; rfl⟩
      case measure=>simp [intOf]; omega
     ·have hk0:ps.drop k = []:=List.drop_eq_nil_of_le (by omega)
      have HR':=HR.out
      rw [hk0,ci] at HR'
      have HRn:Hid (mR=acc):=by rw [Hid,HN2.out,← HR']
      have hne:∃ t,acc=t:=⟨_,rfl⟩
      have HOT:Hid (ib wr w.heap.size A7 c7 acc):=by
       rcases HI.out with h | ⟨h1,_⟩
       ·exact af h (by omega)
       ·have:=hak.out; rw [h1] at this; simp at this; omega
      clear hk0 HR' HR hne
      go_wp2
      refine bodyPost_ret (v:=.tuple #[F A7 acc.length c7,.bool true]) (by simp [results,Tryz.results21,go_sem, *]) rfl (dR.mk HRn.out HN1.out rfl HOT.out hbr)
   ·have HN:=SN.out (.inr (.inl (by omega)))
    have hs4' : (4000:Int) < (s.size:Int):=by omega
    clear SN SY HSm
    go_wp2
    refine bodyPost_ret (v:=.tuple #[F none 0 0,.bool false]) (by simp [results,Tryz.results21,go_sem, *]) rfl (dR.mk HN.2 HN.1 rfl (World.ownsRow_nil _ _ _ _) b2)
  ·have HN:=SN.out (.inr (.inr (by omega)))
   have hl30' : (30:Int) < (ps.length:Int):=by omega
   clear SN SY HSm
   go_wp2
   refine bodyPost_ret (v:=.tuple #[F none 0 0,.bool false]) (by simp [results,Tryz.results21,go_sem, *]) rfl (dR.mk HN.2 HN.1 rfl (World.ownsRow_nil _ _ _ _) b2)
set_option maxRecDepth 100000 in
set_option maxHeartbeats 8000000 in
theorem pM (x:aL) (l:Lg) (s:ByteArray) (w:World) (h:aM w w.heap.size x) (tl:x.t.length≤1048576) (ol:x.o.length≤1048576) (hs:l.D.size+l.P.size≤2000000) (hsl:s.size≤1048576) :
  Calls Tryz.prog 20 #[aD x l,uk s] w (dR w (eD x.c l s) (dk x.c l s)):=by
 have b0:=(Below.refl w.heap.size w).alloc (Nat.le_refl _) (.cells #[F x.TA x.t.length x.tc,F x.OA x.o.length x.oc,O U x.got,O U x.sold,O U x.missed,uk l.D,uk l.P,O U l.n] 42)
 have L0:=ah.new w 42 #[F x.TA x.t.length x.tc,F x.OA x.o.length x.oc,O U x.got,O U x.sold,O U x.missed,uk l.D,uk l.P,O U l.n]
 have hW:=h.up b0 (Nat.le_refl _)
 have hal:=(Below.refl (w.alloc (.cells #[F x.TA x.t.length x.tc,F x.OA x.o.length x.oc,O U x.got,O U x.sold,O U x.missed,uk l.D,uk l.P,O U l.n] 42)).heap.size (w.alloc (.cells #[F x.TA x.t.length x.tc,F x.OA x.o.length x.oc,O U x.got,O U x.sold,O U x.missed,uk l.D,uk l.P,O U l.n] 42))).alloc (Nat.le_refl _) (.cells #[] 9)
 have L1:=L0.below hal L0.lt
 have HO:ib ((w.alloc (.cells #[F x.TA x.t.length x.tc,F x.OA x.o.length x.oc,O U x.got,O U x.sold,O U x.missed,uk l.D,uk l.P,O U l.n] 42)).alloc (.cells #[] 9)) w.heap.size (some ⟨w.heap.size+1,0,none⟩) 0 []:=cP (ah.new1 w (.cells #[F x.TA x.t.length x.tc,F x.OA x.o.length x.oc,O U x.got,O U x.sold,O U x.missed,uk l.D,uk l.P,O U l.n] 42) 9 #[]) (by omega)
 have b1:=b0.trans (hal.mono b0.size)
 have hW1:=hW.then hal
 clear b0 hW L0 hal
 have SP:=fun W=>kw s 10 W (by omega)
 have VA:=fun W hW=>eY x l W hW hs
 rw [rg] at VA
 have hpc:=gZ (b:=10) (n:=1048576) (s:=bl s) (by rw [ao]; exact hsl)
 have hpm:=gY (b:=10) (n:=1048576) (s:=bl s) (by rw [ao]; exact hsl)
 have SN:=Lib.hid (fun h=>tu (y:=x.c) (l:=l) (s:=s) h)
 have SY:=Lib.hid (fun h h1 h2=>rk (y:=x.c) (l:=l) (s:=s) h h1 h2)
 have HSm:=Lib.hid (fun h=>ju (y:=x.c) (l:=l) h)
 obtain ⟨ps,hps⟩ : ∃ ps,aH 10 (bl s)=ps:=⟨_,rfl⟩
 simp only [hps] at SP hpc hpm SN SY
 have HPM:=Lib.hid hpm
 obtain ⟨hp1,hp2⟩:=hpc
 obtain ⟨mR,hmR⟩ : ∃ mR,eD x.c l s=mR:=⟨_,rfl⟩
 obtain ⟨oR,hoR⟩ : ∃ oR,dk x.c l s=oR:=⟨_,rfl⟩
 rw [hmR,hoR] at SN SY ⊢
 clear hps hpm hmR hoR
 obtain ⟨ov,hov⟩ : ∃ ov,sn x.c l=ov:=⟨_,rfl⟩
 rw [hov] at SN SY VA HSm
 have HOV:=Lib.hid hov
 clear hov
 go_enter Tryz.func20,Tryz.ntmps20
 go_wp2_with fail
 generalize ((w.alloc (.cells #[F x.TA x.t.length x.tc,F x.OA x.o.length x.oc,O U x.got,O U x.sold,O U x.missed,uk l.D,uk l.P,O U l.n] 42)).alloc (.cells #[] 9))=W at b1 L1 hW1 HO ⊢
 refine (SP W).mono ?_
 rintro e w1 ⟨gp,cp,rest,rfl,LT1,hgp0,hb1⟩
 have L1:=L1.below hb1 L1.lt
 have hW1:=hW1.then hb1
 have b1:=b1.trans (hb1.mono b1.size)
 have HO1:=Lib.hid (ac HO hb1)
 have hgp:w.heap.size < gp:=Nat.lt_of_lt_of_le (Nat.lt_trans (Nat.lt_succ_self _) (HO.lt _ rfl).2) hgp0
 clear hb1 SP HO hgp0
 obtain ⟨z0,z1,z2,z3,z4,z5,z6,z7⟩:=cells8 L1
 go_wp2_with fail
 refine (VA w1 hW1).mono ?_
 rintro e w2 ⟨rfl,hb2⟩
 have L2:=L1.below hb2 L1.lt
 have hW2:=hW1.then hb2
 have b2:=b1.trans (hb2.mono b1.size)
 have LT2:=LT1.below hb2 LT1.lt
 have HO2:=Lib.hid (ac HO1.out hb2)
 clear HO1
 clear L1 hW1 b1 LT1 hb2 VA z0 z1 z2 z3 z4 z5 z6 z7
 cases ov
 ·have HN:=SN.out (.inl rfl)
  clear SN SY HSm
  go_wp2
  refine bodyPost_ret (v:=.tuple #[F (some ⟨w.heap.size+1,0,none⟩) 0 0,.bool false]) (by simp [results,Tryz.results20,go_sem, *]) rfl (dR.mk HN.2 HN.1 rfl HO2.out b2)
 ·by_cases hl30:ps.length≤30
  ·by_cases hs4:s.size≤4000
   ·have HN:=SY.out rfl hs4 hl30
    have HS:=HSm.out rfl
    obtain ⟨hN1,hN2⟩:=HN
    have HN2:=Lib.hid hN2
    have HN1:=Lib.hid hN1
    clear SN SY HSm hN1 hN2 tl ol hs
    obtain ⟨tl,ol,hs⟩:=HS
    have hs4' : ¬ (4000:Int) < (s.size:Int):=by omega
    have hl30' : ¬ (30:Int) < (ps.length:Int):=by omega
    have H0:Hid (ci (ps.drop 0) x.c l []=ci ps x.c l []):=rfl
    have HI0:Hid (kC w2 (gp+1) (some ⟨w.heap.size+1,0,none⟩) 0 []):=.inr ⟨rfl,rfl,_,rfl⟩
    have hgp2:gp < w2.heap.size:=LT2.lt
    have HW0:=Lib.hid hW2
    have HL0:=Lib.hid L2
    have HT0:=Lib.hid LT2
    clear hW2 L2 LT2
    go_wp2_with fail
    go_loopw [6,8,9] (fun out _ i wr=>∃ (k:Nat) (X:aL) (l1:Lg) (acc:List ByteArray) (A7:Option Addr) (c7:Nat),k≤ps.length∧i=O U k∧out=F A7 acc.length c7∧Hid (acc.length=k)∧Hid (sn X.c l1=true)∧Hid (aM wr wr.heap.size X)∧Hid (ah wr w.heap.size 42 [F X.TA X.t.length X.tc,F X.OA X.o.length X.oc,O U X.got,O U X.sold,O U X.missed,uk l1.D,uk l1.P,O U l1.n])∧Hid (kC wr (gp+1) A7 c7 acc)∧Hid (ah wr gp 9 (dn ps++rest))∧Below w.heap.size w wr∧Hid (ci (ps.drop k) X.c l1 acc=ci ps x.c l [])) (fun _ _ i _=>ps.length - (intOf i).toNat)
    case atStart=>exact ⟨0,x,l,[],(some ⟨w.heap.size+1,0,none⟩),0,Nat.zero_le _,rfl,rfl,rfl,HOV,HW0,HL0,HI0,HT0,b2,H0⟩
    case round =>
     clear b2 HI0 HW0 HL0 HT0 H0 hs ol tl
     obtain ⟨k,X,l1,acc,A7,c7,hk,rfl,rfl,hak,HOK,HX,HL,HI,HT,hbr,HR⟩:=hrel
     have hakb:acc.length≤30:=by have:=hak.out; omega
     by_cases hlt:k < ps.length
     ·have hq0:=HT.out.cell k
      rw [ff ps rest k hlt] at hq0
      have HST:=Lib.hid (jJ hlt X.c l1 acc)
      have hln:=HPM.out _ (List.getElem_mem hlt)
      obtain ⟨ln,hle⟩ : ∃ ln:ByteArray,ln=⟨(ps[k]).toArray⟩:=⟨_,rfl⟩
      have hlz:ln.size≤1048576:=by rw [hle]; show (ps[k]).toArray.size≤_; rw [List.size_toArray]; exact hln
      rw [← hle] at hq0 HST
      clear hln
      have HS:=ju HOK.out
      obtain ⟨htl,hol,hdp⟩:=HS
      have L3:=HL.out
      have hX:=HX.out
      have hgL:=L3.lt
      have hgT:=HT.out.lt
      have EXc:=Lib.hid (fun W hW=>mP X l1 ln W hW htl hol hdp hlz)
      have eT:=rf X l1 ln
      have eO:=rd X l1 ln
      have eL:=re X l1 ln
      skip
      replace hle:=Lib.hid hle
      have HOK2:=Lib.hid (rh ln HOK.out)
      obtain ⟨rp,hrp⟩ : ∃ rp,ua X.c l1 ln=rp:=⟨_,rfl⟩
      obtain ⟨y,hy⟩ : ∃ y,tY X.c l1 ln=y:=⟨_,rfl⟩
      obtain ⟨l2,hl2⟩ : ∃ l2,tZ X.c l1 ln=l2:=⟨_,rfl⟩
      rw [hy,hl2] at HOK2 HST
      rw [hrp] at HST eT
      rw [hy] at eO
      rw [hl2] at eL
      have HY1:=Lib.hid eT
      have HY2:=Lib.hid eO
      have HY3:=Lib.hid eL
      clear eT eO eL hrp hy hl2 HL HX HOK hq0
      go_upto_region 9 with fail
      refine am (Sw 9 (fun W9=>Below wr.heap.size wr W9) (fun W9=>∃ TA tc OA oc,Below w.heap.size w W9∧ah W9 w.heap.size 42 [F TA y.t.length tc,F OA y.o.length oc,O U y.got,O U y.sold,O U y.missed,uk l2.D,uk l2.P,O U l2.n]∧W9.ownsRow wr.heap.size 104 2 (F TA y.t.length tc) y.t.length (y.t.flatMap ap.enc)∧W9.ownsRow wr.heap.size 147 3 (F OA y.o.length oc) y.o.length (y.o.flatMap ae.enc)∧kC W9 (gp+1) A7 c7 acc∧ah W9 gp 9 (dn ps++rest))) (fun i w1 w2=>i ∉ [9]→Below w1.heap.size w1 w2) (by kernel_rfl) (by kernel_rfl) (by kernel_rfl) (Sw.start (Below.refl _ _).drew) ?_
      simp only [aw,Act.put,List.setIfInBounds_toArray,List.set_cons_zero,List.set_cons_succ,Nat.zero_add,Nat.reduceAdd]
      apply aa
      case h1 =>
       intro vs L9 w9 hG9 hC9 hB K9 hK9
       replace hC9:=sb hC9 hG9
       have q0:w9.cell? ⟨w.heap.size,0,none⟩=some (F X.TA X.t.length X.tc):=(L3.below hC9 L3.lt).cell 0
       have q1:w9.cell? ⟨w.heap.size,1,none⟩=some (F X.OA X.o.length X.oc):=(L3.below hC9 L3.lt).cell 1
       have q2:w9.cell? ⟨w.heap.size,2,none⟩=some (O U X.got):=(L3.below hC9 L3.lt).cell 2
       have q3:w9.cell? ⟨w.heap.size,3,none⟩=some (O U X.sold):=(L3.below hC9 L3.lt).cell 3
       have q4:w9.cell? ⟨w.heap.size,4,none⟩=some (O U X.missed):=(L3.below hC9 L3.lt).cell 4
       have q5:w9.cell? ⟨w.heap.size,5,none⟩=some (uk l1.D):=(L3.below hC9 L3.lt).cell 5
       have q6:w9.cell? ⟨w.heap.size,6,none⟩=some (uk l1.P):=(L3.below hC9 L3.lt).cell 6
       have q7:w9.cell? ⟨w.heap.size,7,none⟩=some (O U l1.n):=(L3.below hC9 L3.lt).cell 7
       simp only [Act.put,sA,s0,s1] at hK9
       go_simp
       exact hK9 _ _ rfl (sy hG9 hC9) bR
      apply aa
      case h1 =>
       intro vs L9 w9 hG9 hC9 hB K9 hK9
       replace hC9:=sb hC9 hG9
       simp only [Act.put,sA,s0,s1] at hK9
       go_simp
       exact hK9 _ _ rfl (sy hG9 hC9) bR
      apply aa
      case h1 =>
       intro vs L9 w9 hG9 hC9 hB K9 hK9
       replace hC9:=sb hC9 hG9
       simp only [Act.put,sA,s0,s1] at hK9
       go_simp
       exact hK9 _ _ rfl (sy hG9 hC9) bR
      apply aa
      case h1 =>
       intro vs L9 w9 hG9 hC9 hB K9 hK9
       replace hC9:=sb hC9 hG9
       have d1:=fe hB 1
       have d2:=fe hB 2
       simp only [d1,d2] at hK9 ⊢
       simp only [Act.put,sA,s0,s1] at hK9
       go_simp
       exact hK9 _ _ rfl (sy hG9 hC9) bR
      apply aa
      case h1 =>
       intro vs L9 w9 hG9 hC9 hB K9 hK9
       replace hC9:=sb hC9 hG9
       have d3:=fe hB 3
       simp only [d3] at hK9 ⊢
       have q0:=(HT.out.below hC9 HT.out.lt).cell k
       rw [ff ps rest k hlt,← hle.out] at q0
       simp only [Act.put,sA,s0,s1] at hK9
       go_simp
       exact hK9 _ _ rfl (sy hG9 hC9) bR
      refine ak [9] (fun v w9=>∃ TA tc OA oc,v=.tuple #[.agg #[F TA y.t.length tc,F OA y.o.length oc,O U y.got,O U y.sold,O U y.missed,uk l2.D,uk l2.P,O U l2.n],uk rp]∧w9.ownsRow wr.heap.size 104 2 (F TA y.t.length tc) y.t.length (y.t.flatMap ap.enc)∧w9.ownsRow wr.heap.size 147 3 (F OA y.o.length oc) y.o.length (y.o.flatMap ae.enc)) ?_ (fun vs L9 w9 hG9 hC9 hB K9 hK9=>?_) ?_
      next =>
       intro i9 hi9 hb9 ha9 v w1 w2 hv hT9
       have hb:=hT9 (fun hm=>by
        simp only [List.mem_cons,List.not_mem_nil,or_false] at hm hb9
        subst hm
        ·exact hb9 (by simp))
       obtain ⟨TA,tc,OA,oc,e,q1,q2⟩:=hv
       exact ⟨TA,tc,OA,oc,e,ac q1 hb,ac q2 hb⟩
      next =>
       replace hC9:=sb hC9 hG9
       have d0:=fe hB 0
       have d4:=fe hB 4
       simp only [d0,d4] at hK9 ⊢
       simp only [Act.put,sA,s0,s1] at hK9
       go_simp
       refine (EXc.out w9 (hX.then hC9)).mono ?_
       rintro en w8 ⟨v,rfl,⟨TA,tc,OA,oc,rfl,h1,h2⟩,hb8⟩
       simp only [HY1.out,HY2.out,HY3.out] at h1 h2 ⊢
       exact hK9 _ _ _ rfl ⟨TA,tc,OA,oc,rfl,af h1 hC9.size,af h2 hC9.size⟩ (Sw.stay hG9 (by kernel_rfl) (by decide) (hC9.trans (hb8.mono hC9.size))) (fun _=>hb8)
      refine bu [] 5 (fun u v _=>v=u∧∃ a:Value,u=.tuple #[a,uk rp]) (by kernel_rfl) ?_ (fun vs L9 w9 hG9 hC9 hB K9 hK9=>?_) ?_
      next =>
       intro i9 hi9 hb9 ha9 u v w1 w2 hv hT9
       exact hv
      next =>
       replace hC9:=sb hC9 hG9
       obtain ⟨TA,tc,OA,oc,e0,h1,h2⟩:=fs hB 5
       simp only [e0] at hK9 ⊢
       go_simp
       exact hK9 _ _ _ rfl ⟨rfl,_,rfl⟩ (sy hG9 hC9) bR
      refine ak [9] (fun v w9=>∃ TA tc OA oc,v=.agg #[F TA y.t.length tc,F OA y.o.length oc,O U y.got,O U y.sold,O U y.missed,uk l2.D,uk l2.P,O U l2.n]∧w9.ownsRow wr.heap.size 104 2 (F TA y.t.length tc) y.t.length (y.t.flatMap ap.enc)∧w9.ownsRow wr.heap.size 147 3 (F OA y.o.length oc) y.o.length (y.o.flatMap ae.enc)) ?_ (fun vs L9 w9 hG9 hC9 hB K9 hK9=>?_) ?_
      next =>
       intro i9 hi9 hb9 ha9 v w1 w2 hv hT9
       have hb:=hT9 (fun hm=>by
        simp only [List.mem_cons,List.not_mem_nil,or_false] at hm hb9
        subst hm
        ·exact hb9 (by simp))
       obtain ⟨TA,tc,OA,oc,e,q1,q2⟩:=hv
       exact ⟨TA,tc,OA,oc,e,ac q1 hb,ac q2 hb⟩
      next =>
       replace hC9:=sb hC9 hG9
       simp only [Act.put,sA,s0,s1] at hK9
       obtain ⟨TA,tc,OA,oc,e0,h1,h2⟩:=fs hB 5
       simp only [e0] at hK9 ⊢
       obtain ⟨e6,_⟩:=fs hB 6
       simp only [e6,e0] at hK9 ⊢
       go_simp
       exact hK9 _ _ _ rfl ⟨TA,tc,OA,oc,rfl,h1,h2⟩ (sy hG9 hC9) bR
      refine aa (uk rp) (fun vs L9 w9 hG9 hC9 hB K9 hK9=>?_) ?_
      next =>
       simp only [Act.put,sA,s0,s1] at hK9
       obtain ⟨e6,a,e5⟩:=fs hB 6
       simp only [e6,e5] at hK9 ⊢
       go_simp
       exact hK9 _ _ rfl (Sw.both (by decide) (fun h=>h) (fun h=>h) hC9) bR
      refine aa (undef) (fun vs L9 w9 hG9 hC9 hB K9 hK9=>?_) ?_
      next =>
       replace hC9:=hC9.here hG9
       obtain ⟨TA,tc,OA,oc,e0,h1,h2⟩:=fs hB 7
       simp only [e0] at hK9 ⊢
       have L4:=L3.below hC9 L3.lt
       obtain ⟨z0,z1,z2,z3,z4,z5,z6,z7⟩:=cells8 L4
       obtain ⟨f0,f1,f2,f3,f4,f5,f6,f7⟩:=frz8 L4
       have hb4:=hbr.trans (hC9.mono hbr.size)
       obtain ⟨W5,HW5,N5,b5,gr5⟩:=tt (g:=w.heap.size) L4 hb4 (Nat.le_refl _) (F TA y.t.length tc) (F OA y.o.length oc) (O U y.got) (O U y.sold) (O U y.missed) (uk l2.D) (uk l2.P) (O U l2.n)
       have hI5:=Lib.hid ((HI.out.below hC9).kept L4 rj gr5)
       have hT5:=Lib.hid ((HT.out.below hC9 HT.out.lt).kept gr5 (by intro e; injection e with e; omega))
       have hR1:=Lib.hid (aj h1 L4 fa gr5)
       have hR2:=Lib.hid (aj h2 L4 fb gr5)
       have HN5:=Lib.hid N5
       have HB5:=Lib.hid b5
       clear N5 b5 gr5 h1 h2 L4 hb4
       go_simp
       rw [HW5.out]
       exact hK9 _ _ rfl (Sw.turn ⟨TA,tc,OA,oc,HB5.out,HN5.out,hR1.out,hR2.out,hI5.out,hT5.out⟩) (fun hq=>(hq (by decide)).elim)
      apply aa
      case h1 =>
       intro vs L9 w9 hG9 hC9 hB K9 hK9
       replace hC9:=hC9.after hG9 (by kernel_rfl)
       have d8:=fe hB 8
       simp only [d8] at hK9 ⊢
       simp only [Act.put,sA,s0,s1] at hK9
       go_simp
       exact hK9 _ _ rfl (Sw.on hG9 (by kernel_rfl) hC9) bR
      refine ax fun vs L9 w9 hL9 hC9 hB=>?_
      replace hC9:=hC9.done hL9 (by decide)
      obtain ⟨TA,tc,OA,oc,b5,N5,hR1,hR2,hI5,hT5⟩:=hC9
      have d10:=ag.eq (hB 10 _ rfl rfl (by decide))
      simp only [d10]
      clear hB d10 HI hX L3 hgT hgL
      obtain ⟨w5,h59⟩ : ∃ z,z=w9:=⟨_,rfl⟩
      subst h59
      have HI5:=Lib.hid hI5
      have hz5:gp+1≤w5.heap.size:=hT5.lt
      have hak5:acc.length < 1000000:=by omega
      go_wp2_with (at_builtin; refine kD (w0:=w5) rfl _ _ rfl (gp+1) A7 c7 acc.length acc rfl rfl HI5 rp 1 _ rfl (by first | rfl | exact Array.size_push _) hak5 hz5 rfl rfl rfl rfl ?_; intro A8 c8 w6 row HO6 gr6 HRW hb6)
      have b6:=b5.trans (hb6.mono (Nat.le_of_lt (Nat.lt_succ_of_lt hgp)))
      have hRT:=HRW.own gr6 hR1 (by decide)
      have hRO:=HRW.own gr6 hR2 (by decide)
      have h5:Hid (aM w6 w6.heap.size (y.at TA tc OA oc)):=⟨aA hRT,aA hRO⟩
      have h6:=Lib.hid (N5.kept gr6 (HRW.far _ _ _ rj N5))
      have h7:=Lib.hid (hT5.kept gr6 (fun e=>by have:=(HRW.lt _ e.symm).1; omega))
      have h8:Hid (kC w6 (gp+1) A8 c8 (acc++[rp])):=.inl HO6.out
      have hl8:(acc++[rp]).length=acc.length+1:=by rw [List.length_append]; rfl
      clear gr6 hb6 hI5 HO6 hT5 hR1 hR2 N5 b5 HI5 hRT hRO HRW
      go_wp2
      go_roundw
      case rel=>exact ⟨k+1,y.at TA tc OA oc,l2,acc++[rp],A8,c8,by omega,by go_num,by rw [hl8],by rw [Hid,hl8,hak.out],HOK2,h5,h6,h8,h7,b6,by rw [Hid,← HR.out,HST.out]; rfl⟩
      case measure=>simp [intOf]; omega
     ·have hk0:ps.drop k = []:=List.drop_eq_nil_of_le (by omega)
      have HR':=HR.out
      rw [hk0,ci] at HR'
      have HRn:Hid (mR=acc):=by rw [Hid,HN2.out,← HR']
      have hne:∃ t,acc=t:=⟨_,rfl⟩
      have HOT:Hid (ib wr w.heap.size A7 c7 acc):=by
       rcases HI.out with h | ⟨h1,_⟩
       ·exact af h (by omega)
       ·have:=hak.out; rw [h1] at this; simp at this; omega
      clear hk0 HR' HR hne
      go_wp2
      refine bodyPost_ret (v:=.tuple #[F A7 acc.length c7,.bool true]) (by simp [results,Tryz.results20,go_sem, *]) rfl (dR.mk HRn.out HN1.out rfl HOT.out hbr)
   ·have HN:=SN.out (.inr (.inl (by omega)))
    have hs4' : (4000:Int) < (s.size:Int):=by omega
    clear SN SY HSm
    go_wp2
    refine bodyPost_ret (v:=.tuple #[F (some ⟨w.heap.size+1,0,none⟩) 0 0,.bool false]) (by simp [results,Tryz.results20,go_sem, *]) rfl (dR.mk HN.2 HN.1 rfl HO2.out b2)
  ·have HN:=SN.out (.inr (.inr (by omega)))
   have hl30' : (30:Int) < (ps.length:Int):=by omega
   clear SN SY HSm
   by_cases hs4:(4000:Int) < (s.size:Int)
   all_goals
    go_wp2
    refine bodyPost_ret (v:=.tuple #[F (some ⟨w.heap.size+1,0,none⟩) 0 0,.bool false]) (by simp [results,Tryz.results20,go_sem, *]) rfl (dR.mk HN.2 HN.1 rfl HO2.out b2)
end Go.Proofs.YtoeoimhemojdeaaGreatDoor
