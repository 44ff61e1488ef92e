/- Rs13: the texts JoinW OffBusy3 ExI StepA StepGet StepMove StepSell0 StepMiss StepSell StepBack StepShow, joined into one file. -/
import Derived.Test.YtoeoimhemojdeaaGreatDoorRs01
import Derived.Test.YtoeoimhemojdeaaGreatDoorRs02
import Derived.Test.YtoeoimhemojdeaaGreatDoorRs04
import Derived.Test.YtoeoimhemojdeaaGreatDoorRs07
import Derived.Test.YtoeoimhemojdeaaGreatDoorRs08
import Derived.Test.YtoeoimhemojdeaaGreatDoorRs09
import Derived.Test.YtoeoimhemojdeaaGreatDoorRs10
import Derived.Test.YtoeoimhemojdeaaGreatDoorRs12

set_option linter.unusedVariables false
open Go.Value renaming int → O, slice → F, string → uk
open Go.IntKind renaming i64 → U

namespace Go.Proofs.YtoeoimhemojdeaaGreatDoor
open Go.RowKit
def oq (l:List (List UInt8)):List Value:=l.map fun b=>uk ⟨b.toArray⟩
theorem sd (l:List (List UInt8)) (b:List UInt8):oq (l++[b])=oq l++[uk ⟨b.toArray⟩]:=by simp [oq]
theorem qD:(Tryz.prog.info? 9).map (fun i=>(i.zero,i.size,i.bytes))=some (some (uk ⟨#[]⟩),1,16):=by kernel_rfl
theorem se {α:Type} {l:List α} {k:Nat} (h:k < l.length):l.take (k+1)=l.take k++[l[k]]:=by simp
theorem ou {w w' : World} {B:Nat} {e:TypeId} {k:Nat} {v:Value} {n:Nat} {xs:List Value} (h:w.ownsRow B e k v n xs) (hb:Below w.heap.size w w'):w'.ownsRow B e k v n xs:=by
 unfold World.ownsRow at *
 obtain ⟨hl,h | ⟨g,cap,cells,hv,hB,hg,r⟩⟩:=h
 ·exact ⟨hl,Or.inl h⟩
 ·exact ⟨hl,Or.inr ⟨g,cap,cells,hv,hB,(hb.block g (ah.lt (cs:=cells.toList) hg)).trans hg,r⟩⟩
theorem s8 (l:List (List UInt8)) (A:Option Addr) (c B:Nat) (sep:ByteArray) (w:World) (h:w.ownsRow B 9 1 (F A l.length c) l.length (oq l))
  (hn:l.length≤1000000) (hlen:(Lib.join l (bl sep)).length≤1000000000) :
  Calls Tryz.prog 211 #[F A l.length c,uk sep] w fun e w'=>e=.returned (uk ⟨(Lib.join l (bl sep)).toArray⟩)∧Below w.heap.size w w':=by
 obtain ⟨hl,⟨h0,h1⟩ | ⟨g,cap,cells,hv,hB,hg,h5,h6,h7,h8⟩⟩:=h
 ·have hl0:l = []:=List.eq_nil_of_length_eq_zero (by omega)
  subst hl0
  exact (Tryz.strings_Join_none A c sep w).mono fun e w' ⟨he,hw⟩=>⟨he,hw ▸ Below.refl _ _⟩
 ·injection hv with hA hn' hc
  subst hA; subst hc
  have hx:(l.map fun b=>(⟨b.toArray⟩ : ByteArray)).length=l.length:=by simp
  have hm:(l.map fun b=>(⟨b.toArray⟩ : ByteArray)).map (·.data.toList)=l:=by simp [List.map_map,Function.comp_def]
  have hJ:=Tryz.strings_Join g 0 c (l.map fun b=>(⟨b.toArray⟩ : ByteArray)) sep w (fun j x hj=>by
   have hjl:j < l.length:=by have:=(List.getElem?_eq_some_iff.1 hj).1; simpa using this
   have hq:(oq l)[j]?=some (uk x):=by
    rw [oq,List.getElem?_map]; rw [List.getElem?_map] at hj
    rw [List.getElem?_eq_getElem hjl] at hj ⊢
    simpa using hj
   rw [← h8,List.getElem?_take_of_lt (by omega)] at hq
   rw [Nat.zero_add,(ah.cell (cs:=cells.toList) hg j)]
   exact hq) (ah.lt (cs:=cells.toList) hg) (by rw [hx]; omega) (by rw [hx]; exact h5) (by rw [hm]; have:=hlen; unfold bl at this; omega)
  rw [hm,hx] at hJ
  exact hJ
theorem lP (sep:List UInt8) (m:Nat):∀ l:List (List UInt8),(∀ x ∈ l,x.length≤m)→(Lib.joinTail sep l).length≤l.length * (sep.length+m)
 | [],_=>by simp [Lib.joinTail]
 | x :: l,h=>by
  have h1:=lP sep m l fun y hy=>h y (List.mem_cons_of_mem _ hy)
  have h2:=h x List.mem_cons_self
  have e:Lib.joinTail sep (x :: l)=sep++x++Lib.joinTail sep l:=by simp [Lib.joinTail]
  rw [e,List.length_append,List.length_append,List.length_cons,Nat.succ_mul]; omega
theorem tM (sep:List UInt8) (m:Nat) (l:List (List UInt8)) (h:∀ x ∈ l,x.length≤m):(Lib.join l sep).length≤l.length * (sep.length+m):=by
 cases l with
 | nil=>simp [Lib.join_nil]
 | cons x l =>
  have h1:=lP sep m l fun y hy=>h y (List.mem_cons_of_mem _ hy)
  have h2:=h x List.mem_cons_self
  rw [Lib.join_cons,List.length_append,List.length_cons,Nat.succ_mul]; omega
theorem sf {n:Int} (h0:0≤n) (h1:n≤1000000000):(Lib.itoa n).length≤100:=by
 have h3:(⟨(Lib.itoa n).toArray⟩ : ByteArray).size≤100:=cz h0 h1
 rw [← bK (Lib.itoa n),ao]; exact h3
set_option maxHeartbeats 2000000 in
theorem nf (A:Option Addr) (c:Nat) (l:List Int) (sep:ByteArray) (w:World) (h:jA w w.heap.size A l) (hl9:l.length≤9)
  (hr:∀ i (hi:i < l.length),0≤l[i]∧l[i]≤1000000) (hs:sep.size≤10) (ht:iR w) :
  Calls Tryz.prog 184 #[F A l.length c,uk sep] w fun e w'=>e=.returned (uk ⟨(Lib.join (l.map Lib.itoa) (bl sep)).toArray⟩)∧Below w.heap.size w w':=by
 have hl:=h.big
 have hrd:=jA.ints h
 have hjl:(Lib.join (l.map Lib.itoa) (bl sep)).length≤1000000000:=by
  have h1:=tM (bl sep) 100 (l.map Lib.itoa) fun x hx=>by
   obtain ⟨n,hn,rfl⟩:=List.mem_map.1 hx
   obtain ⟨i,hi,rfl⟩:=List.getElem_of_mem hn
   exact sf (by have:=hr i hi; omega) (by have:=hr i hi; omega)
  rw [ao,List.length_map] at h1
  have h2:l.length * (sep.size+100)≤9 * 110:=Nat.mul_le_mul hl9 (by omega)
  omega
 replace hr:=Lib.hid hr
 go_enter Tryz.func184,Tryz.ntmps184
 go_wp2_with fail
 go_loopw [5,10] (fun out i wr=>∃ (k:Nat),k≤l.length∧i=O U k∧Hid (wr.ownsRow w.heap.size 9 1 out k (oq ((l.take k).map Lib.itoa)))∧(Below w.heap.size w wr)) (fun _ i _=>l.length - (intOf i).toNat)
 case atStart=>exact ⟨0,Nat.zero_le _,rfl,(World.ownsRow_nil _ _ _ _),Below.refl _ _⟩
 case round =>
  obtain ⟨k,hk,rfl,HO,hbr⟩:=hrel
  obtain ⟨q,rfl⟩ : ∃ q:an w.heap.size w,wr=q.val:=⟨⟨wr,hbr⟩,rfl⟩
  by_cases hlt:k < l.length
  ·obtain ⟨b,off,rfl,hb,hcell⟩:=hrd (by omega)
   have c0:=hcell k hlt
   obtain ⟨f1,f2⟩:=hr.out k hlt
   have HT:=Lib.hid (se hlt)
   obtain ⟨f,hfe⟩ : ∃ f,f=l[k]:=⟨_,rfl⟩
   rw [← hfe] at c0 f1 f2 HT
   clear hfe hcell hrd
   obtain ⟨fv,hfv⟩ : ∃ s:ByteArray,s=⟨(Lib.itoa f).toArray⟩:=⟨_,rfl⟩
   have HQ:=ht.at q
   have NUMF:∀ W:World,iR W→Calls Tryz.prog 69 #[O U f] W fun e w'=>e=.returned (uk fv)∧Below W.heap.size W w':=by
    intro W hW; rw [hfv]; exact cE _ _ (by omega) (by omega) hW
   replace NUMF:=Lib.hid NUMF
   have HFV:=Lib.hid hfv; clear hfv
   go_wp2_with (first
    | (go_at_call 69; refine (NUMF.out _ HQ).mono ?_; rintro e w4 ⟨rfl,hb4⟩; have hb5:Below w.heap.size w w4:=hbr.trans (hb4.mono hbr.size); have HO4:=Lib.hid (ou HO.out hb4); have hs4:=hb5.size)
    | (at_builtin; refine bY (w0:=w4) rfl _ _ 49 rfl 9 (uk ⟨#[]⟩) 1 16 Tryz.underlying49 qD rfl (by decide) (by omega) w.heap.size _ _ _ rfl HO4 #[uk fv] 1 _ rfl (by first | rfl | exact Array.size_push _) rfl (by simp [Value.oneCell']) (by omega) hs4 rfl rfl rfl rfl ?_; intro v' w6 HO6 hg6 hb6))
   obtain ⟨A3,c3,rfl⟩:=av HO6.out
   go_wp2
   go_roundw
   case rel=>exact ⟨k+1,by omega,by go_num,by rw [HT.out,List.map_append,List.map_cons,List.map_nil,sd,← HFV.out]; exact HO6,hb5.trans hb6⟩
   case measure=>simp [intOf]; omega
  ·have ek:k=l.length:=by omega
   subst ek
   rw [List.take_length] at HO
   obtain ⟨A3,c3,rfl⟩:=av HO.out
   clear hrd
   have HJ:=Lib.hid (s8 (l.map Lib.itoa) A3 c3 w.heap.size sep)
   rw [List.length_map] at HJ
   go_wp2_with (go_at_call 211; refine (HJ.out _ HO.out (by omega) hjl).mono ?_; rintro e w7 ⟨rfl,hb7⟩)
   go_ret
   exact ⟨rfl,hbr.trans (hb7.mono hbr.size)⟩
theorem ow (o:ae) (gk:Nat) (kd:Int) (w:World) (hk:gk < w.heap.size) (hc:w.cell? ⟨gk,0,none⟩=some (O U kd)) :
  Calls Tryz.prog 183 (#[o.val]++#[.pointer (some ⟨gk,0,none⟩)]) w fun e w'=>e=.returned (.bool (decide (o.p=kd)))∧Below w.heap.size w w':=by
 show Calls Tryz.prog 183 #[o.val,.pointer (some ⟨gk,0,none⟩)] w _
 have hc' : (w.alloc (.cells #[O U o.k,O U o.p,O U o.c] 147)).cell? ⟨gk,0,none⟩=some (O U kd):=((Below.refl w.heap.size w).alloc (Nat.le_refl _) _).cell hk |>.trans hc
 obtain ⟨v,hv⟩ : ∃ v,(o.p == kd)=v:=⟨_,rfl⟩
 have HV:Hid (decide (o.p=kd)=v):=by rw [← hv]; unfold Hid; rw [Bool.eq_iff_iff]; simp
 cases v
 all_goals
  go_enter Tryz.func183,Tryz.ntmps183
  go_wp2
  go_ret
  exact ⟨by rw [HV.out]; rfl,(Below.refl _ _).alloc (Nat.le_refl _) _⟩
def gG (pp:Value) (w:World):Nat :=
 match pp with
 | .pointer (some a)=>(match w.cell? a with | some (.int _ p)=>(1000 - p).toNat | _=>0)
 | _=>0
theorem lQ {w:World} {g:Nat} {t:TypeId} {p:Int} (h:ah w g t [O U p]):gG (.pointer (some ⟨g,0,none⟩)) w=(1000 - p).toNat:=by
 unfold gG
 simp only [h.cell 0,List.getElem?_cons_zero]
set_option maxRecDepth 20000 in
set_option maxHeartbeats 2000000 in
theorem iU (x:aL) (w:World) (h:aM w w.heap.size x) :
  Calls Tryz.prog 152 #[x.val] w fun e w'=>e=.returned (.tuple #[O U (cW x),.bool (cl x)])∧Below w.heap.size w w':=by
 have hmf:∀ (fn:Fn) (first cap:Array Value) (w:World),(Instr.makeFunc fn first cap).run Tryz.prog w=.ok (.func fn first cap) w:=fun _ _ _ _=>rfl
 have b1:=(Below.refl w.heap.size w).alloc (Nat.le_refl _) (.cells #[F x.TA x.t.length x.tc,F x.OA x.o.length x.oc,O U x.got,O U x.sold,O U x.missed] 40)
 have hA:=gq h 40
 have cG:=fun W hW=>aX x w.heap.size W hW
 cases hg:al x
 ·have HF:Hid (cW x=0∧cl x=false):=by unfold cW cl; rw [hg]; exact ⟨rfl,rfl⟩
  rw [hg] at cG
  clear hg
  go_enter Tryz.func152,Tryz.ntmps152
  go_wp2_with fail
  generalize w.alloc (.cells #[F x.TA x.t.length x.tc,F x.OA x.o.length x.oc,O U x.got,O U x.sold,O U x.missed] 40)=W at b1 hA ⊢
  refine (cG _ hA).mono ?_
  rintro e w1 ⟨rfl,hb⟩
  go_wp2
  go_ret2
  exact ⟨by rw [HF.out.1,HF.out.2]; rfl,aq b1 hb⟩
 ·have G:=bj.1 hg
  have ol:=G.ol
  have HOLL:=Lib.hid G.oall
  have HGD:Hid (al x=true):=hg
  have hc1:∀ r ∈ x.o,1≤r.c:=fun r hr=>by
   obtain ⟨i,hi,rfl⟩:=List.getElem_of_mem hr
   exact (ae.bounds (G.oall i hi)).2.2.1
  have hp1:∀ r ∈ x.o,1≤r.p∧r.p≤999:=fun r hr=>by
   obtain ⟨i,hi,rfl⟩:=List.getElem_of_mem hr
   exact (ae.bounds (G.oall i hi)).2.1
  have HSM:=Lib.hid (rJ x.o hc1 hp1)
  rw [hg] at cG
  clear hg G hc1 hp1
  by_cases hlen:0 < x.o.length
  ·have HF:Hid (cW x=(cU x.o x.o (0,0)).1∧cl x=true):=by
    have:cl x=true:=by unfold cl; rw [HGD.out,decide_eq_true hlen]; rfl
    unfold cW; rw [this]; exact ⟨rfl,rfl⟩
   have hne:((x.o.length:Int) == 0)=false:=by rw [beq_eq_false_iff_ne]; omega
   go_enter Tryz.func152,Tryz.ntmps152
   go_wp2_with fail
   generalize w.alloc (.cells #[F x.TA x.t.length x.tc,F x.OA x.o.length x.oc,O U x.got,O U x.sold,O U x.missed] 40)=W at b1 hA ⊢
   obtain ⟨s0,s1,s2,s3,s4⟩:=hA.s
   refine (aT (cG _ hA)).mono ?_
   rintro e w1 ⟨rfl,q1,rfl⟩
   have hL0:=ah.new q1.val 3 #[O U 1]
   have hB0:=q1.below.alloc q1.size (.cells #[O U 1] 3)
   have hs0:=q1.size
   go_wp2
   go_loopw [4,5,6] (fun bb mm pp wr=>∃ (k g:Nat) (p:Int) (b:Int × Int),(k:Int)+p=1000∧1≤p∧pp=.pointer (some ⟨g,0,none⟩)∧bb=O U b.1∧mm=O U b.2∧W.heap.size≤g∧Hid (ah wr g 3 [O U p])∧Below W.heap.size W wr∧Hid (gy x.o k p b=cU x.o x.o (0,0))) (fun _ _ pp wr=>gG pp wr)
   case atStart=>exact ⟨999,q1.val.heap.size,1,(0,0),by omega,by omega,rfl,rfl,rfl,hs0,hL0,hB0,HSM.out⟩
   case round =>
    obtain ⟨k,g,p,⟨b1',b2'⟩,hkp,hp1,rfl,rfl,rfl,hg,HL,hbr,HR⟩:=hrel
    have c0:wr.cell? ⟨g,0,none⟩=some (O U p):=HL.out.cell 0
    cases k with
    | zero =>
     have hp:p=1000:=by omega
     subst hp
     have HE:Hid ((b1',b2')=cU x.o x.o (0,0)):=HR.out
     go_wp2
     go_ret2
     exact ⟨by rw [HF.out.1,HF.out.2,← HE.out]; rfl,b1.trans (hbr.mono b1.size)⟩
    | succ k =>
     have hle:p≤999:=by omega
     have hk1:(k:Int)+p≤999:=by omega
     have hk2:999≤(k:Int)+p:=by omega
     clear hkp
     have HS:Hid (gy x.o (k+1) p (b1',b2')=gy x.o k (p+1) (if b2' < iQ x.o p then (p,iQ x.o p) else (b1',b2'))):=rfl
     have hlt:=HL.out.lt
     have HM:=lQ HL.out
     go_wp2_with fail
     refine (eG (fun o=>decide (o.p=p)) 183 #[.pointer (some ⟨g,0,none⟩)] Tryz.call183 x w.heap.size wr (fun o q=>ow o g p q.val (Nat.lt_of_lt_of_le hlt q.size) ((q.cell hlt).trans c0)) (hA.at ⟨wr,hbr⟩) ol HOLL.out).mono ?_
     rintro e w2 ⟨rfl,hb2⟩
     have c1:w2.cell? ⟨g,0,none⟩=some (O U p):=(hb2.cell hlt).trans c0
     have hB2:=hbr.trans (hb2.mono hbr.size)
     have hL3:=ah.new w2 3 #[O U (p+1)]
     have hB3:=hB2.alloc hB2.size (.cells #[O U (p+1)] 3)
     have hs3:=hB2.size
     have hVe:aS (fun o=>decide (o.p=p)) x.o=iQ x.o p:=rfl
     rw [hVe]
     clear hVe
     obtain ⟨V,hV⟩ : ∃ V,iQ x.o p=V:=⟨_,rfl⟩
     rw [hV] at HS
     rw [hV]
     clear hV c0
     have HM3:=Lib.hid (lQ hL3)
     have HML:=Lib.hid HM; clear HM
     by_cases hlt2:b2' < V
     ·rw [if_pos hlt2] at HS
      go_wp2
      go_roundw
      case rel=>exact ⟨k,w2.heap.size,p+1,(p,V),by omega,by omega,rfl,rfl,rfl,hs3,hL3,hB3,by have h1:=HR.out; rw [HS.out] at h1; exact h1⟩
      case measure=>show gG _ _ < gG _ _; rw [HML.out,HM3.out]; omega
     ·rw [if_neg hlt2] at HS
      have hv:V≤b2':=by omega
      clear hlt2
      go_wp2
      go_roundw
      case rel=>exact ⟨k,w2.heap.size,p+1,(b1',b2'),by omega,by omega,rfl,rfl,rfl,hs3,hL3,hB3,by have h1:=HR.out; rw [HS.out] at h1; exact h1⟩
      case measure=>show gG _ _ < gG _ _; rw [HML.out,HM3.out]; omega
  ·have HF:Hid (cW x=0∧cl x=false):=by
    have:cl x=false:=by unfold cl; rw [decide_eq_false hlen,Bool.and_false]
    unfold cW; rw [this]; exact ⟨rfl,rfl⟩
   have hne:((x.o.length:Int) == 0)=true:=by rw [beq_iff_eq]; omega
   go_enter Tryz.func152,Tryz.ntmps152
   go_wp2_with fail
   generalize w.alloc (.cells #[F x.TA x.t.length x.tc,F x.OA x.o.length x.oc,O U x.got,O U x.sold,O U x.missed] 40)=W at b1 hA ⊢
   obtain ⟨s0,s1,s2,s3,s4⟩:=hA.s
   refine (aT (cG _ hA)).mono ?_
   rintro e w1 ⟨rfl,q1,rfl⟩
   go_wp2
   go_ret2
   exact ⟨by rw [HF.out.1,HF.out.2]; rfl,b1.trans (q1.below.mono b1.size)⟩
def dq (w:World) (R:Option ByteArray) (e:Ending) (w' : World):Prop :=
 (∃ s,e=.returned (.tuple #[uk s,.bool R.isSome])∧(∀ r,R=some r→s=r))∧Below w.heap.size w w'
theorem dq.yes {w w' : World} {r:ByteArray} (hb:Below w.heap.size w w'):dq w (some r) (.returned (.tuple #[uk r,.bool true])) w':=⟨⟨r,rfl,fun _ h=>by injection h⟩,hb⟩
theorem dq.no {w w' : World} {s:ByteArray} (hb:Below w.heap.size w w'):dq w none (.returned (.tuple #[uk s,.bool false])) w':=⟨⟨s,rfl,fun _ h=>by cases h⟩,hb⟩
set_option maxHeartbeats 1000000 in
theorem ky (A:Option Addr) (c:Nat) (l:List Int) (ok:Bool) (w:World) (h:jA w w.heap.size A l) (hl8:l.length≤8) (hr:∀ n ∈ l,0≤n∧n≤1000000) (ht:iR w) :
  Calls Tryz.prog 153 #[F A l.length c,.bool ok] w fun e w'=>e=.returned (.tuple #[uk (eZ l),.bool ok])∧Below w.heap.size w w':=by
 rcases Nat.eq_zero_or_pos l.length with h0 | h0
 ·have HL:Hid (eZ l=⟨#[110,111,110,101]⟩):=by unfold Hid eZ; rw [if_pos h0]
  have hz:((l.length:Int) == 0)=true:=by rw [h0]; rfl
  go_enter Tryz.func153,Tryz.ntmps153
  go_wp2
  go_ret2
  exact ⟨by rw [HL.out]; rfl,Below.refl _ _⟩
 ·have hz:((l.length:Int) == 0)=false:=beq_false_of_ne (by omega)
  have HL:Hid (eZ l=⟨(Lib.join (l.map Lib.itoa) (bl ⟨#[32]⟩)).toArray⟩):=by unfold Hid eZ; rw [if_neg (by omega)]; rfl
  have hj:=nf A c l ⟨#[32]⟩ w h (by omega) (fun i hi=>hr _ (List.getElem_mem hi)) (by decide) ht
  obtain ⟨T,hT⟩ : ∃ T:ByteArray,(⟨(Lib.join (l.map Lib.itoa) (bl ⟨#[32]⟩)).toArray⟩ : ByteArray)=T:=⟨_,rfl⟩
  rw [hT] at hj HL
  clear hT
  go_enter Tryz.func153,Tryz.ntmps153
  go_wp2_with fail
  refine hj.mono ?_
  rintro e w1 ⟨rfl,hb⟩
  go_wp2
  go_ret2
  exact ⟨by rw [HL.out]; rfl,hb⟩
theorem sg {x:aL} (G:bo x) (n:Int) (b:Bool):(bh b (aP (fun r:ae=>decide (r.p=n)) ae.k x.o)).length≤8∧∀ m ∈ bh b (aP (fun r:ae=>decide (r.p=n)) ae.k x.o),0≤m∧m≤1000000:=by
 refine ⟨(py G n b).1,fun m hm=>?_⟩
 cases b
 ·simp [bh] at hm
 ·obtain ⟨r,hr,_,rfl⟩:=eX.1 (show m ∈ aP _ _ _ from hm)
  obtain ⟨j,hj,e⟩:=List.getElem_of_mem hr
  have h1:=ei G.tall (ae.bounds (G.oall j hj)).1
  rw [e] at h1; omega
theorem pE {x:aL} (G:bo x) (n:Int) (b:Bool):(bh b (aP (fun r:ae=>decide (r.k=n)) ae.p x.o)).length≤8∧∀ m ∈ bh b (aP (fun r:ae=>decide (r.k=n)) ae.p x.o),0≤m∧m≤1000000:=by
 refine ⟨(mM G n b).1,fun m hm=>?_⟩
 cases b
 ·simp [bh] at hm
 ·obtain ⟨r,hr,_,rfl⟩:=eX.1 (show m ∈ aP _ _ _ from hm)
  obtain ⟨j,hj,e⟩:=List.getElem_of_mem hr
  have h1:=(ae.bounds (G.oall j hj)).2.1
  rw [e] at h1; omega
theorem ox (o:ae) (w:World):Calls Tryz.prog 151 (#[o.val]++#[]) w fun e w'=>e=.returned (.bool (cm o))∧Below w.heap.size w w':=by
 go_enter Tryz.func151,Tryz.ntmps151
 go_wp2
 go_ret
 refine ⟨rfl, ?_⟩
 go_grown
set_option maxRecDepth 100000 in
set_option maxHeartbeats 4000000 in
theorem nC (x:aL) (l:Lg) (s:ByteArray) (g:Nat) (w:World) (hL:ah w g 42 [F x.TA x.t.length x.tc,F x.OA x.o.length x.oc,O U x.got,O U x.sold,O U x.missed,uk l.D,uk l.P,O U l.n]) (h:aM w w.heap.size x) (G:bo x) (ht:iR w) :
  Calls Tryz.prog 97 #[.pointer (some ⟨g,0,none⟩),uk s] w (dq w (cJ x s)):=by
 have hat:bX w w.heap.size g x:=jO hL h
 have hgd:al x=true:=bj.2 G
 by_cases h0:s=⟨#[105,110]⟩
 ·subst h0
  have HV:cJ x ⟨#[105,110]⟩=some (bv (cc x.t)):=by unfold cJ; rw [if_pos rfl]
  rw [HV]
  clear HV
  have bd:=G.inB
  have hn:=fun W hW=>cE (cc x.t) W (by omega) (by omega) hW
  obtain ⟨T,hT⟩ : ∃ T:ByteArray,(⟨(Lib.itoa (cc x.t)).toArray⟩ : ByteArray)=T:=⟨_,rfl⟩
  rw [show bv (cc x.t)=T from hT]
  rw [hT] at hn
  clear hT bd
  have hc:=iD x g w hat G.tl G.tall
  go_enter Tryz.func97,Tryz.ntmps97
  go_wp2_with fail
  refine hc.mono ?_
  rintro e w1 ⟨rfl,hb1⟩
  go_wp2_with fail
  refine (hn _ (ht.then hb1)).mono ?_
  rintro e w2 ⟨rfl,hb2⟩
  go_wp2
  go_ret2
  exact dq.yes (aq hb1 hb2)
 have f0:(s.toList == [105,110])=false:=bC h0
 by_cases h1:s=⟨#[111,117,116]⟩
 ·subst h1
  have HV:cJ x ⟨#[111,117,116]⟩=some (bv (aS cm x.o)):=by unfold cJ; rw [if_neg (by decide),if_pos rfl]
  rw [HV]
  clear HV
  have bd:=G.outB cm
  have hn:=fun W hW=>cE (aS cm x.o) W (by omega) (by omega) hW
  obtain ⟨T,hT⟩ : ∃ T:ByteArray,(⟨(Lib.itoa (aS cm x.o)).toArray⟩ : ByteArray)=T:=⟨_,rfl⟩
  rw [show bv (aS cm x.o)=T from hT]
  rw [hT] at hn
  clear hT bd
  have eg:∀ args w,(callFunc 151 args).run Tryz.prog w=.ok (.enter 151 args) w:=Tryz.call151
  have hc:=eG cm 151 #[] eg x g w (fun o p=>ox o p.val) hat G.ol G.oall
  go_enter Tryz.func97,Tryz.ntmps97
  go_wp2_with fail
  refine hc.mono ?_
  rintro e w1 ⟨rfl,hb1⟩
  go_wp2_with fail
  refine (hn _ (ht.then hb1)).mono ?_
  rintro e w2 ⟨rfl,hb2⟩
  go_wp2
  go_ret2
  exact dq.yes (aq hb1 hb2)
 have f1:(s.toList == [111,117,116])=false:=bC h1
 by_cases h2:s=⟨#[103,111,116]⟩
 ·subst h2
  have HV:cJ x ⟨#[103,111,116]⟩=some (bv (x.got)):=by unfold cJ; rw [if_neg (by decide),if_neg (by decide),if_pos rfl]
  rw [HV]
  clear HV
  have bd:=G.g
  have hn:=fun W hW=>cE (x.got) W (by omega) (by omega) hW
  obtain ⟨T,hT⟩ : ∃ T:ByteArray,(⟨(Lib.itoa (x.got)).toArray⟩ : ByteArray)=T:=⟨_,rfl⟩
  rw [show bv (x.got)=T from hT]
  rw [hT] at hn
  clear hT bd
  obtain ⟨c0,c1,c2,c3,c4⟩:=cells5 hL
  go_enter Tryz.func97,Tryz.ntmps97
  go_wp2_with fail
  refine (hn _ ht).mono ?_
  rintro e w2 ⟨rfl,hb2⟩
  go_wp2
  go_ret2
  exact dq.yes hb2
 have f2:(s.toList == [103,111,116])=false:=bC h2
 by_cases h3:s=⟨#[115,111,108,100]⟩
 ·subst h3
  have HV:cJ x ⟨#[115,111,108,100]⟩=some (bv (x.sold)):=by unfold cJ; rw [if_neg (by decide),if_neg (by decide),if_neg (by decide),if_pos rfl]
  rw [HV]
  clear HV
  have bd:=G.s
  have hn:=fun W hW=>cE (x.sold) W (by omega) (by omega) hW
  obtain ⟨T,hT⟩ : ∃ T:ByteArray,(⟨(Lib.itoa (x.sold)).toArray⟩ : ByteArray)=T:=⟨_,rfl⟩
  rw [show bv (x.sold)=T from hT]
  rw [hT] at hn
  clear hT bd
  obtain ⟨c0,c1,c2,c3,c4⟩:=cells5 hL
  go_enter Tryz.func97,Tryz.ntmps97
  go_wp2_with fail
  refine (hn _ ht).mono ?_
  rintro e w2 ⟨rfl,hb2⟩
  go_wp2
  go_ret2
  exact dq.yes hb2
 have f3:(s.toList == [115,111,108,100])=false:=bC h3
 by_cases h4:s=⟨#[109,105,115,115,101,100]⟩
 ·subst h4
  have HV:cJ x ⟨#[109,105,115,115,101,100]⟩=some (bv (x.missed)):=by unfold cJ; rw [if_neg (by decide),if_neg (by decide),if_neg (by decide),if_neg (by decide),if_pos rfl]
  rw [HV]
  clear HV
  have bd:=G.m
  have hn:=fun W hW=>cE (x.missed) W (by omega) (by omega) hW
  obtain ⟨T,hT⟩ : ∃ T:ByteArray,(⟨(Lib.itoa (x.missed)).toArray⟩ : ByteArray)=T:=⟨_,rfl⟩
  rw [show bv (x.missed)=T from hT]
  rw [hT] at hn
  clear hT bd
  obtain ⟨c0,c1,c2,c3,c4⟩:=cells5 hL
  go_enter Tryz.func97,Tryz.ntmps97
  go_wp2_with fail
  refine (hn _ ht).mono ?_
  rintro e w2 ⟨rfl,hb2⟩
  go_wp2
  go_ret2
  exact dq.yes hb2
 have f4:(s.toList == [109,105,115,115,101,100])=false:=bC h4
 by_cases h5:s=⟨#[98,117,115,105,101,115,116]⟩
 ·subst h5
  have HV:cJ x ⟨#[98,117,115,105,101,115,116]⟩=if cl x then some (bv (cW x)) else none:=by unfold cJ; rw [if_neg (by decide),if_neg (by decide),if_neg (by decide),if_neg (by decide),if_neg (by decide),if_pos rfl]
  rw [HV]
  clear HV
  have hc:=iU x w h
  have bd:=sX (x:=x)
  have hn:=fun W hW=>cE (cW x) W (by omega) (by omega) hW
  obtain ⟨T,hT⟩ : ∃ T:ByteArray,(⟨(Lib.itoa (cW x)).toArray⟩ : ByteArray)=T:=⟨_,rfl⟩
  rw [show bv (cW x)=T from hT]
  rw [hT] at hn
  clear hT
  obtain ⟨v,hv⟩ : ∃ v,cW x=v:=⟨_,rfl⟩
  rw [hv] at hc hn
  clear hv bd
  obtain ⟨b,hb⟩ : ∃ b,cl x=b:=⟨_,rfl⟩
  rw [hb] at hc ⊢
  clear hb
  obtain ⟨c0,c1,c2,c3,c4⟩:=cells5 hL
  cases b
  all_goals
   go_enter Tryz.func97,Tryz.ntmps97
   go_wp2_with fail
   refine hc.mono ?_
   rintro e w1 ⟨rfl,hb1⟩
   go_wp2_with fail
   refine (hn _ (ht.then hb1)).mono ?_
   rintro e w2 ⟨rfl,hb2⟩
   go_wp2
   go_ret2
   first
    | exact dq.yes (aq hb1 hb2)
    | exact dq.no (aq hb1 hb2)
 have f5:(s.toList == [98,117,115,105,101,115,116])=false:=bC h5
 have HV:cJ x s=none:=by unfold cJ; rw [if_neg h0,if_neg h1,if_neg h2,if_neg h3,if_neg h4,if_neg h5]
 rw [HV]
 clear h0 h1 h2 h3 h4 h5 HV
 have hn:=fun W hW=>cE 0 W (by omega) (by omega) hW
 obtain ⟨T,hT⟩ : ∃ T:ByteArray,(⟨(Lib.itoa 0).toArray⟩ : ByteArray)=T:=⟨_,rfl⟩
 rw [hT] at hn
 clear hT
 go_enter Tryz.func97,Tryz.ntmps97
 go_wp2_with fail
 refine (hn _ ht).mono ?_
 rintro e w2 ⟨rfl,hb2⟩
 go_wp2
 go_ret2
 exact dq.no hb2
set_option maxRecDepth 100000 in
set_option maxHeartbeats 4000000 in
theorem q9 (x:aL) (l:Lg) (s:ByteArray) (n:Int) (g:Nat) (w:World) (hL:ah w g 42 [F x.TA x.t.length x.tc,F x.OA x.o.length x.oc,O U x.got,O U x.sold,O U x.missed,uk l.D,uk l.P,O U l.n]) (h:aM w w.heap.size x) (G:bo x) (ht:iR w) :
  Calls Tryz.prog 98 #[.pointer (some ⟨g,0,none⟩),uk s,O U n] w (dq w (gC x s n)):=by
 obtain ⟨c0,c1,c2,c3,c4⟩:=cells5 hL
 by_cases h0:s=⟨#[97,116]⟩
 ·subst h0
  have HV:gC x ⟨#[97,116]⟩ n=lc x n:=by unfold gC; rw [if_pos rfl]
  rw [HV]
  clear HV
  have BD:=sg G n (al x && bU n 1 999)
  have hc:=lV x n w h
  have HT:lc x n=if (al x && bU n 1 999)=true then some (eZ (bh (al x && bU n 1 999) (aP (fun r:ae=>decide (r.p=n)) ae.k x.o))) else none:=rfl
  rw [HT]
  clear HT
  obtain ⟨ok,hok⟩ : ∃ b,(al x && bU n 1 999)=b:=⟨_,rfl⟩
  obtain ⟨ns,hns⟩ : ∃ b,bh (al x && bU n 1 999) (aP (fun r:ae=>decide (r.p=n)) ae.k x.o)=b:=⟨_,rfl⟩
  rw [hns] at BD hc ⊢
  rw [hok] at hc ⊢
  have hl:=fun W A c hR hT=>ky A c ns ok W hR BD.1 BD.2 hT
  clear hok hns BD
  obtain ⟨T,hT⟩ : ∃ T,eZ ns=T:=⟨_,rfl⟩
  rw [hT] at hl ⊢
  clear hT
  cases ok
  all_goals
   go_enter Tryz.func98,Tryz.ntmps98
   go_wp2_with fail
   refine hc.mono ?_
   rintro e w1 ⟨A',c',rfl,hO,hb1⟩
   go_wp2_with fail
   refine (hl _ A' c' hO.reads (ht.then hb1)).mono ?_
   rintro e w2 ⟨rfl,hb2⟩
   go_wp2
   go_ret2
   first
    | exact dq.yes (aq hb1 hb2)
    | exact dq.no (aq hb1 hb2)
 have f0:(s.toList == [97,116])=false:=bC h0
 by_cases h1:s=⟨#[119,105,116,104]⟩
 ·subst h1
  have HV:gC x ⟨#[119,105,116,104]⟩ n=ip x n:=by unfold gC; rw [if_neg (by decide),if_pos rfl]
  rw [HV]
  clear HV
  have BD:=pE G n (al x && aO x.t n)
  have hc:=jy x n w h
  have HT:ip x n=if (al x && aO x.t n)=true then some (eZ (bh (al x && aO x.t n) (aP (fun r:ae=>decide (r.k=n)) ae.p x.o))) else none:=rfl
  rw [HT]
  clear HT
  obtain ⟨ok,hok⟩ : ∃ b,(al x && aO x.t n)=b:=⟨_,rfl⟩
  obtain ⟨ns,hns⟩ : ∃ b,bh (al x && aO x.t n) (aP (fun r:ae=>decide (r.k=n)) ae.p x.o)=b:=⟨_,rfl⟩
  rw [hns] at BD hc ⊢
  rw [hok] at hc ⊢
  have hl:=fun W A c hR hT=>ky A c ns ok W hR BD.1 BD.2 hT
  clear hok hns BD
  obtain ⟨T,hT⟩ : ∃ T,eZ ns=T:=⟨_,rfl⟩
  rw [hT] at hl ⊢
  clear hT
  cases ok
  all_goals
   go_enter Tryz.func98,Tryz.ntmps98
   go_wp2_with fail
   refine hc.mono ?_
   rintro e w1 ⟨A',c',rfl,hO,hb1⟩
   go_wp2_with fail
   refine (hl _ A' c' hO.reads (ht.then hb1)).mono ?_
   rintro e w2 ⟨rfl,hb2⟩
   go_wp2
   go_ret2
   first
    | exact dq.yes (aq hb1 hb2)
    | exact dq.no (aq hb1 hb2)
 have f1:(s.toList == [119,105,116,104])=false:=bC h1
 by_cases h2:s=⟨#[116,101,120,116]⟩
 ·subst h2
  have HV:gC x ⟨#[116,101,120,116]⟩ n=jI x n:=by unfold gC; rw [if_neg (by decide),if_neg (by decide),if_pos rfl]
  rw [HV]
  clear HV
  have hc:=kS x n w h ht
  have HT:jI x n=if (al x && aO x.t n)=true then some (ed x n) else none:=rfl
  rw [HT]
  clear HT
  obtain ⟨ok,hok⟩ : ∃ b,(al x && aO x.t n)=b:=⟨_,rfl⟩
  rw [hok] at hc ⊢
  obtain ⟨T,hT⟩ : ∃ T,ed x n=T:=⟨_,rfl⟩
  rw [hT] at hc ⊢
  clear hT hok
  cases ok
  all_goals
   go_enter Tryz.func98,Tryz.ntmps98
   go_wp2_with fail
   refine hc.mono ?_
   rintro e w1 ⟨rfl,hb1⟩
   go_wp2
   go_ret2
   first
    | exact dq.yes hb1
    | exact dq.no hb1
 have f2:(s.toList == [116,101,120,116])=false:=bC h2
 have HV:gC x s n=none:=by unfold gC; rw [if_neg h0,if_neg h1,if_neg h2]
 rw [HV]
 clear h0 h1 h2 HV
 go_enter Tryz.func98,Tryz.ntmps98
 go_wp2
 go_ret2
 exact dq.no (Below.refl _ _)
theorem bT (x:aL) (g:Nat) (w:World) (h:bX w w.heap.size g x) (tl:x.t.length≤1000000) (ol:x.o.length≤1000000) :
  Calls Tryz.prog 93 #[.pointer (some ⟨g,0,none⟩)] w fun e w'=>∃ TA tc OA oc,e=.returned (.agg #[F TA x.t.length tc,F OA x.o.length oc,O U x.got,O U x.sold,O U x.missed])∧w'.ownsRow w.heap.size 104 2 (F TA x.t.length tc) x.t.length (x.t.flatMap ap.enc)∧w'.ownsRow w.heap.size 147 3 (F OA x.o.length oc) x.o.length (x.o.flatMap ae.enc)∧Below w.heap.size w w':=mu x g w h tl ol
set_option maxRecDepth 100000 in
set_option maxHeartbeats 1500000 in
theorem fg (x:aL) (g:Nat) (kd:Int) (st pe va:Int) (w:World) (h:bX w w.heap.size g x) (G:bo x) (hk:(kd == 1)=false) (hI:au x.t st < 0) :
  Calls Tryz.prog 186 #[.pointer (some ⟨g,0,none⟩),.agg #[O U kd,O U st,O U pe,O U va]] w (aB w (ba x.c ⟨kd,st,pe,va⟩)):=by
 have HN:Hid (ba x.c ⟨kd,st,pe,va⟩=none):=by
  unfold Hid ba
  rw [if_neg (by simpa using hk),if_pos (by show ¬ 0≤au x.t st; omega)]
 have L1:=(ah.new w 112 #[O U kd,O U st,O U pe,O U va]).alloc (.cells #[F none 0 0,F none 0 0,O U 0,O U 0,O U 0] 40)
 have L2:=ah.new1 w (.cells #[O U kd,O U st,O U pe,O U va] 112) 40 #[F none 0 0,F none 0 0,O U 0,O U 0,O U 0]
 have b1:=(Below.refl w.heap.size w).alloc (Nat.le_refl _) (.cells #[O U kd,O U st,O U pe,O U va] 112)
 have b2:=b1.alloc b1.size (.cells #[F none 0 0,F none 0 0,O U 0,O U 0,O U 0] 40)
 have hA:=h.then b2 b2.size
 have tl:=G.tl
 have ol:=G.ol
 clear b1
 go_enter Tryz.func186,Tryz.ntmps186
 go_wp2_with fail
 generalize ((w.alloc (.cells #[O U kd,O U st,O U pe,O U va] 112)).alloc (.cells #[F none 0 0,F none 0 0,O U 0,O U 0,O U 0] 40))=W2 at L1 L2 b2 hA ⊢
 refine (bT x g W2 hA (by omega) (by omega)).mono ?_
 rintro e W3 ⟨TA,tc,OA,oc,rfl,hT,hO,k3⟩
 have hal:=(Below.refl W3.heap.size W3).alloc (Nat.le_refl _) (.cells #[F TA x.t.length tc,F OA x.o.length oc,O U x.got,O U x.sold,O U x.missed] 40)
 have hOwn:az (W3.alloc (.cells #[F TA x.t.length tc,F OA x.o.length oc,O U x.got,O U x.sold,O U x.missed] 40)) W2.heap.size W3.heap.size _ _ x.c:=⟨ah.new W3 40 #[F TA x.t.length tc,F OA x.o.length oc,O U x.got,O U x.sold,O U x.missed],k3.size,ac hT hal,ac hO hal⟩
 have k4:=k3.trans (hal.mono k3.size)
 have s0:=(L1.below k4 L1.lt).cell 0
 have s1:=(L1.below k4 L1.lt).cell 1
 simp only [List.getElem?_cons_zero,List.getElem?_cons_succ] at s0 s1
 have hgO:w.heap.size+1 < W3.heap.size:=Nat.lt_of_lt_of_le L2.lt k3.size
 clear hT hO k3
 go_wp2_with fail
 clear s0 s1 hal
 generalize W3.alloc (.cells #[F TA x.t.length tc,F OA x.o.length oc,O U x.got,O U x.sold,O U x.missed] 40)=W4 at hOwn k4 ⊢
 generalize W3.heap.size=gO at hOwn hgO ⊢
 refine (bc (x.c.at TA tc OA oc) gO st W4 (az.at_ (y:=x.c) hOwn)).mono ?_
 rintro e W5 ⟨rfl,hb5⟩
 have hOwn5:=hOwn.then hb5
 have k5:=k4.trans (hb5.mono k4.size)
 rw [show au (x.c.at TA tc OA oc).t st=au x.t st from rfl]
 generalize au x.t st=I at hI ⊢
 have L2z:=L2.below k5 L2.lt
 have z0:=L2z.cell 0
 have z1:=L2z.cell 1
 have z2:=L2z.cell 2
 have z3:=L2z.cell 3
 have z4:=L2z.cell 4
 obtain ⟨f0,f1,f2,f3,f4⟩:=frz5 L2z
 simp only [List.getElem?_cons_zero,List.getElem?_cons_succ] at z0 z1 z2 z3 z4
 have hgr:=ab (g:=w.heap.size+1) (i:=4) (u:=O U 0) (ab (g:=w.heap.size+1) (i:=3) (u:=O U 0) (ab (g:=w.heap.size+1) (i:=2) (u:=O U 0) (ab (g:=w.heap.size+1) (i:=1) (u:=F none 0 0) (ab (g:=w.heap.size+1) (i:=0) (u:=F none 0 0) (World.grownBy.refl W5 (some (w.heap.size+1)))))))
 have bw:=b2.trans (k5.mono b2.size)
 have bz:=bw.grown hgr bw.size (by rintro _ ⟨⟩; omega)
 go_wp2
 rw [HN.out]
 refine bodyPost_ret (v:=.tuple #[.agg #[F none 0 0,F none 0 0,O U 0,O U 0,O U 0],.bool false]) (by simp [results,Tryz.results186,go_sem, *]) rfl (aB.no rfl bz)
set_option maxRecDepth 100000 in
set_option maxHeartbeats 1500000 in
theorem pF (x:aL) (g:Nat) (st pe va:Int) (w:World) (h:bX w w.heap.size g x) (G:bo x) (i:Nat) (hi:i < x.t.length) (hI:au x.t st=i) (hpe:pe=0) (hva:1≤va∧va≤9999) :
  Calls Tryz.prog 186 #[.pointer (some ⟨g,0,none⟩),.agg #[O U 1,O U st,O U pe,O U va]] w (aB w (ba x.c ⟨1,st,pe,va⟩)):=by
 subst hpe
 obtain ⟨tr,htr⟩ : ∃ tr,x.c.t[i]=tr:=⟨_,rfl⟩
 obtain ⟨r,hr⟩ : ∃ r:Oc,r=⟨x.t.set i ⟨tr.k,tr.c+va⟩,x.o,x.got+va,x.sold,x.missed⟩:=⟨_,rfl⟩
 have HR:Hid (ba x.c ⟨1,st,0,va⟩=Oc.fin r):=by
  unfold Hid ba
  rw [if_pos rfl]
  rw [show ai x.c.t st (va)=x.t.set i ⟨tr.k,tr.c+va⟩ from by show ai x.t st _=_; rw [gw hI hi,show x.t[i]=tr from htr]]
  rw [hr]
  rfl
 have hNb:=G.at_bd st 0
 have hz0:(0:Int)≤(i:Int):=by omega
 have hzi : ¬ (i:Int) < 0:=by omega
 have htb:=(ap.bounds (G.tall i hi)).2
 rw [show x.t[i]=tr from htr] at htb
 obtain ⟨htb1,htb2⟩:=htb
 have hgg:=G.g
 obtain ⟨hgg1,hgg2⟩:=hgg
 obtain ⟨hva1,hva2⟩:=hva
 have L1:=(ah.new w 112 #[O U 1,O U st,O U 0,O U va]).alloc (.cells #[F none 0 0,F none 0 0,O U 0,O U 0,O U 0] 40)
 have L2:=ah.new1 w (.cells #[O U 1,O U st,O U 0,O U va] 112) 40 #[F none 0 0,F none 0 0,O U 0,O U 0,O U 0]
 have b1:=(Below.refl w.heap.size w).alloc (Nat.le_refl _) (.cells #[O U 1,O U st,O U 0,O U va] 112)
 have b2:=b1.alloc b1.size (.cells #[F none 0 0,F none 0 0,O U 0,O U 0,O U 0] 40)
 have hA:=h.then b2 b2.size
 have tl:=G.tl
 have ol:=G.ol
 clear b1
 go_enter Tryz.func186,Tryz.ntmps186
 go_wp2_with fail
 generalize ((w.alloc (.cells #[O U 1,O U st,O U 0,O U va] 112)).alloc (.cells #[F none 0 0,F none 0 0,O U 0,O U 0,O U 0] 40))=W2 at L1 L2 b2 hA ⊢
 refine (bT x g W2 hA (by omega) (by omega)).mono ?_
 rintro e W3 ⟨TA,tc,OA,oc,rfl,hT,hO,k3⟩
 obtain ⟨gT,cT,_,hvt,_,_,_⟩:=bH hT (by omega)
 injection hvt with e1 e2 e3
 subst e1; subst e3
 have hal:=(Below.refl W3.heap.size W3).alloc (Nat.le_refl _) (.cells #[F (some ⟨gT,0,none⟩) x.t.length tc,F OA x.o.length oc,O U x.got,O U x.sold,O U x.missed] 40)
 have hOwn:az (W3.alloc (.cells #[F (some ⟨gT,0,none⟩) x.t.length tc,F OA x.o.length oc,O U x.got,O U x.sold,O U x.missed] 40)) W2.heap.size W3.heap.size _ _ x.c:=⟨ah.new W3 40 #[F (some ⟨gT,0,none⟩) x.t.length tc,F OA x.o.length oc,O U x.got,O U x.sold,O U x.missed],k3.size,ac hT hal,ac hO hal⟩
 have k4:=k3.trans (hal.mono k3.size)
 have s0:=(L1.below k4 L1.lt).cell 0
 have s1:=(L1.below k4 L1.lt).cell 1
 simp only [List.getElem?_cons_zero,List.getElem?_cons_succ] at s0 s1
 have hgO:w.heap.size+1 < W3.heap.size:=Nat.lt_of_lt_of_le L2.lt k3.size
 clear hT hO k3
 have hA4:=hA.then k4 k4.size
 go_wp2_with fail
 clear s0 s1 hal
 generalize W3.alloc (.cells #[F (some ⟨gT,0,none⟩) x.t.length tc,F OA x.o.length oc,O U x.got,O U x.sold,O U x.missed] 40)=W4 at hOwn k4 hA4 ⊢
 generalize W3.heap.size=gO at hOwn hgO ⊢
 refine (bc x g st W4 hA4).mono ?_
 rintro e W4b ⟨rfl,hb4⟩
 rw [hI]
 have hOwn4:=hOwn.then hb4
 have k4b:=k4.trans (hb4.mono k4.size)
 have L1b:=L1.below k4b L1.lt
 have s1:=L1b.cell 1
 simp only [List.getElem?_cons_zero,List.getElem?_cons_succ] at s1
 go_wp2_with fail
 refine (bc (x.c.at (some ⟨gT,0,none⟩) tc OA oc) gO st W4b (az.at_ (y:=x.c) hOwn4)).mono ?_
 rintro e W5 ⟨rfl,hb5⟩
 have hOwn5:=hOwn4.then hb5
 have k5:=k4b.trans (hb5.mono k4b.size)
 clear s1 L1b hOwn4 hb4 k4b hA4
 rw [show au (x.c.at (some ⟨gT,0,none⟩) tc OA oc).t st=au x.t st from rfl,hI]
 have L1c:=L1.below k5 L1.lt
 have hA5:=hA.then k5 k5.size
 have hmf:∀ (fn:Fn) (first cap:Array Value) (w:World),(Instr.makeFunc fn first cap).run Tryz.prog w=.ok (.func fn first cap) w:=fun _ _ _ _=>rfl
 go_wp2_with fail
 refine (cZ (B:=0) L1c hA5 G (Nat.zero_le _)).mono ?_
 rintro e W6 ⟨rfl,hb6⟩
 have hOwn6:=hOwn5.then hb6
 have k6:=k5.trans (hb6.mono k5.size)
 have L1d:=L1.below k6 L1.lt
 obtain ⟨s0,s1,s2,s3⟩:=cells4 L1d
 clear L1c hA5 hOwn5 hOwn hb5 hb6 k4
 generalize aJ st 0 x.o=N at *
 obtain ⟨hNb1,hNb2⟩:=hNb
 have c0:=hOwn6.lies.cell 0
 simp only [List.getElem?_cons_zero] at c0
 obtain ⟨v,hv⟩ : ∃ v,(N == 0)=v:=⟨_,rfl⟩
 cases v
 all_goals
  go_wp2
  obtain ⟨hOt,kt,ct,cf⟩:=az.setT' (y:=x.c) (hOwn6.then (Below.refl _ _).drew) hi tr htr (tr.c+va)
  have kd:=k6.drew
  have L1e:=L1.below kd L1.lt
  have u1:=L1e.cell 1
  have u2:=L1e.cell 2
  have u3:=L1e.cell 3
  simp only [List.getElem?_cons_zero,List.getElem?_cons_succ] at u1 u2 u3
  go_still_tail 9,(by kernel_rfl)
  change wpList _ _ _ _ _ W6.drew
  generalize W6.drew=Wd at hOt kt ct cf kd L1e u1 u2 u3 ⊢
  have k7:=kd.trans kt
  have hneT : ¬ gT=w.heap.size:=fun e=>by have:=(hOt.t.lt gT rfl).1; have:=L1.lt; omega
  have hneT' : ¬ w.heap.size=gT:=fun e=>hneT e.symm
  have hneO : ¬ gO=w.heap.size:=by omega
  have hneO' : ¬ w.heap.size=gO:=by omega
  have hneG : ¬ gT=gO:=fun e=>hOt.ne_t (by rw [← e]; rfl)
  have hneG' : ¬ gO=gT:=fun e=>hneG e.symm
  have d2:Wd.cell? ⟨gO,2,none⟩=some (O U x.got):=by
   have:=hOt.lies.cell 2
   rw [World.cell?_setCell_other _ _ _ _ (by simp)] at this
   exact this
  have d2f:Wd.frozen? ⟨gO,2,none⟩=false:=by
   have:=hOt.lies.frozen 2
   rwa [World.frozen?_setCell] at this
  have hOu:=(hOt.setN (x.got+va)).1
  have k8:=k7.trans (hOt.belowN 2 (O U (x.got+va)))
  go_wp2_with fail
  generalize (Wd.setCell ⟨gT,i * 2+1,none⟩ (O U (tr.c+va))).setCell ⟨gO,2,none⟩ (O U (x.got+va))=W8 at hOu k8 ⊢
  replace hO8:∃ vt vo,az W8 W2.heap.size gO vt vo r:=⟨_,_,by rw [hr]; exact hOu⟩
  obtain ⟨vt,vo,hO8⟩:=hO8
  clear hr hOt hOu hOwn6 c0 ct cf u1 u2 u3 s0 s1 s2 s3 L1d L1e kt kd k7 k6 k5 d2 d2f
  obtain ⟨A1,a1,A2,a2,rfl,rfl⟩:=hO8.form
  have cV:=aX (r.at A1 a1 A2 a2) gO W8 (az.at_ (y:=r) hO8)
  rw [Oc.good_at] at cV
  cases hg:r.good
  ·rw [hg] at cV
   have HN:Hid (ba x.c ⟨1,st,0,va⟩=none):=by unfold Hid; rw [HR.out,Oc.fin,hg]; rfl
   clear hg
   go_wp2_with fail
   refine cV.mono ?_
   rintro e W9 ⟨rfl,hb9⟩
   have k9:=k8.trans (hb9.mono k8.size)
   clear hb9 cV
   have L2z:=L2.below k9 L2.lt
   have z0:=L2z.cell 0
   have z1:=L2z.cell 1
   have z2:=L2z.cell 2
   have z3:=L2z.cell 3
   have z4:=L2z.cell 4
   obtain ⟨f0,f1,f2,f3,f4⟩:=frz5 L2z
   simp only [List.getElem?_cons_zero,List.getElem?_cons_succ] at z0 z1 z2 z3 z4
   have hgr:=ab (g:=w.heap.size+1) (i:=4) (u:=O U 0) (ab (g:=w.heap.size+1) (i:=3) (u:=O U 0) (ab (g:=w.heap.size+1) (i:=2) (u:=O U 0) (ab (g:=w.heap.size+1) (i:=1) (u:=F none 0 0) (ab (g:=w.heap.size+1) (i:=0) (u:=F none 0 0) (World.grownBy.refl W9 (some (w.heap.size+1)))))))
   have bw:=b2.trans (k9.mono b2.size)
   have bz:=bw.grown hgr bw.size (by rintro _ ⟨⟩; omega)
   go_wp2
   rw [HN.out]
   refine bodyPost_ret (v:=.tuple #[.agg #[F none 0 0,F none 0 0,O U 0,O U 0,O U 0],.bool false]) (by simp [results,Tryz.results186,go_sem, *]) rfl (aB.no rfl bz)
  ·rw [hg] at cV
   have HN:Hid (ba x.c ⟨1,st,0,va⟩=some r):=by unfold Hid; rw [HR.out,Oc.fin,hg]; rfl
   clear hg
   go_wp2_with fail
   refine cV.mono ?_
   rintro e W9 ⟨rfl,hb9⟩
   have k9:=k8.trans (hb9.mono k8.size)
   have hO9:=hO8.then hb9
   clear hb9 cV hO8
   obtain ⟨c0,c1,c2,c3,c4⟩:=cells5 hO9.lies
   have L2z:=L2.below k9 L2.lt
   have z0:=L2z.cell 0
   have z1:=L2z.cell 1
   have z2:=L2z.cell 2
   have z3:=L2z.cell 3
   have z4:=L2z.cell 4
   obtain ⟨f0,f1,f2,f3,f4⟩:=frz5 L2z
   simp only [List.getElem?_cons_zero,List.getElem?_cons_succ] at z0 z1 z2 z3 z4
   have hgr:=ab (g:=w.heap.size+1) (i:=4) (u:=O U r.missed) (ab (g:=w.heap.size+1) (i:=3) (u:=O U r.sold) (ab (g:=w.heap.size+1) (i:=2) (u:=O U r.got) (ab (g:=w.heap.size+1) (i:=1) (u:=F A2 r.o.length a2) (ab (g:=w.heap.size+1) (i:=0) (u:=F A1 r.t.length a1) (World.grownBy.refl W9 (some (w.heap.size+1)))))))
   have bw:=b2.trans (k9.mono b2.size)
   have bz:=bw.grown hgr bw.size (by rintro _ ⟨⟩; omega)
   have r8:=af (aj hO9.t L2z eE hgr) b2.size
   have r9:=af (aj hO9.o L2z ep hgr) b2.size
   have R8:=Lib.hid r8; clear r8
   have R9:=Lib.hid r9; clear r9
   clear hgr hO9
   go_wp2
   rw [HN.out]
   refine bodyPost_ret (v:=.tuple #[.agg #[F A1 r.t.length a1,F A2 r.o.length a2,O U r.got,O U r.sold,O U r.missed],.bool true]) (by simp [results,Tryz.results186,go_sem, *]) rfl ?_
   exact aB.yes rfl R8.out R9.out bz
set_option maxRecDepth 100000 in
set_option maxHeartbeats 1500000 in
theorem pG (x:aL) (g:Nat) (st pe va:Int) (w:World) (h:bX w w.heap.size g x) (G:bo x) (hI:au x.t st < 0) (hst:1≤st∧st≤99) (hpe:pe=0) (hva:1≤va∧va≤9999) :
  Calls Tryz.prog 186 #[.pointer (some ⟨g,0,none⟩),.agg #[O U 1,O U st,O U pe,O U va]] w (aB w (ba x.c ⟨1,st,pe,va⟩)):=by
 subst hpe
 obtain ⟨hst1,hst2⟩:=hst
 have hInn : ¬ 0≤au x.t st:=by omega
 have hIx:=pX hInn
 have hin:=oS va hInn
 have hple:=jl x.t st
 have hnl:=o4 x.t st
 obtain ⟨hi0,hat⟩:=qe x.t st
 have hfl:(x.t.flatMap ap.enc).take (cK x.t st * 2)++ap.enc ⟨st,0⟩++(x.t.flatMap ap.enc).drop (cK x.t st * 2)=(dy x.t st).flatMap ap.enc:=(oX ap.enc 2 ap.enc_len x.t (cK x.t st) ⟨st,0⟩).symm
 have hlo:∀ i (h:i < x.t.length),i < cK x.t st→gH x.t[i].k st < 0:=fun i h hi=>qT.2 (qP x.t st i h hi)
 have hhi:∀ i (h:i < x.t.length),cK x.t st≤i→¬ gH x.t[i].k st < 0:=fun i h hi hc=>tE x.t st G.ascT i h hi (qT.1 hc)
 have hfd:∀ h:cK x.t st < x.t.length,false=decide (gH x.t[cK x.t st].k st=0):=fun h=>by
  symm; rw [decide_eq_false_iff_not,rv]; exact ly hInn _ (List.getElem_mem _)
 have cB:=fun (A:Option Addr) (c:Nat) (W:World) (hW:fk W W.heap.size A x.t)=>qa (fun t=>gH t.k st) (O U st) 213 #[] Tryz.call213 A c x.t W (fun t p=>qd t st p.val) hW (by have:=G.tl; omega) (cK x.t st) hple hlo hhi false hfd (fun _=>rfl)
 obtain ⟨tr,htr0⟩ : ∃ tr:ap,tr=⟨st,0⟩:=⟨_,rfl⟩
 have htb1:0≤tr.c:=by rw [htr0]; exact Int.le_refl _
 have htb2:tr.c≤9999:=by rw [htr0]; show (0:Int)≤9999; omega
 have hgd:(dy x.t st).getD (cK x.t st) default=tr:=by rw [List.getD_eq_getElem?_getD,List.getElem?_eq_getElem hi0,hat,htr0]; rfl
 rw [hgd] at hin
 rw [← htr0] at hat
 clear hgd hlo hhi hfd htr0
 generalize dy x.t st=T1 at hIx hin hnl hi0 hat hfl
 generalize cK x.t st=i at hIx hin hple hi0 hat hfl cB
 have hi:i < T1.length:=hi0
 have htr:T1[i]=tr:=hat
 obtain ⟨r,hr⟩ : ∃ r:Oc,r=⟨T1.set i ⟨tr.k,tr.c+va⟩,x.o,x.got+va,x.sold,x.missed⟩:=⟨_,rfl⟩
 have HR:Hid (ba x.c ⟨1,st,0,va⟩=Oc.fin r):=by
  unfold Hid ba
  rw [if_pos rfl]
  show Oc.fin ⟨ai x.t st va,x.o,x.got+va,x.sold,x.missed⟩=_
  rw [hin,hr]
 have hNb:=G.at_bd st 0
 have hz0:(0:Int)≤(i:Int):=by omega
 have HFL:=Lib.hid hfl
 clear hin hfl hat hi0
 have hgg:=G.g
 obtain ⟨hgg1,hgg2⟩:=hgg
 obtain ⟨hva1,hva2⟩:=hva
 have L1:=(ah.new w 112 #[O U 1,O U st,O U 0,O U va]).alloc (.cells #[F none 0 0,F none 0 0,O U 0,O U 0,O U 0] 40)
 have L2:=ah.new1 w (.cells #[O U 1,O U st,O U 0,O U va] 112) 40 #[F none 0 0,F none 0 0,O U 0,O U 0,O U 0]
 have b1:=(Below.refl w.heap.size w).alloc (Nat.le_refl _) (.cells #[O U 1,O U st,O U 0,O U va] 112)
 have b2:=b1.alloc b1.size (.cells #[F none 0 0,F none 0 0,O U 0,O U 0,O U 0] 40)
 have hA:=h.then b2 b2.size
 have tl:=G.tl
 have ol:=G.ol
 clear b1
 go_enter Tryz.func186,Tryz.ntmps186
 go_wp2_with fail
 generalize ((w.alloc (.cells #[O U 1,O U st,O U 0,O U va] 112)).alloc (.cells #[F none 0 0,F none 0 0,O U 0,O U 0,O U 0] 40))=W2 at L1 L2 b2 hA ⊢
 refine (bT x g W2 hA (by omega) (by omega)).mono ?_
 rintro e W3 ⟨TA,tc,OA,oc,rfl,hT,hO,k3⟩
 have hal:=(Below.refl W3.heap.size W3).alloc (Nat.le_refl _) (.cells #[F TA x.t.length tc,F OA x.o.length oc,O U x.got,O U x.sold,O U x.missed] 40)
 have hOwn:az (W3.alloc (.cells #[F TA x.t.length tc,F OA x.o.length oc,O U x.got,O U x.sold,O U x.missed] 40)) W2.heap.size W3.heap.size _ _ x.c:=⟨ah.new W3 40 #[F TA x.t.length tc,F OA x.o.length oc,O U x.got,O U x.sold,O U x.missed],k3.size,ac hT hal,ac hO hal⟩
 have k4:=k3.trans (hal.mono k3.size)
 have s0:=(L1.below k4 L1.lt).cell 0
 have s1:=(L1.below k4 L1.lt).cell 1
 simp only [List.getElem?_cons_zero,List.getElem?_cons_succ] at s0 s1
 have hgO:w.heap.size+1 < W3.heap.size:=Nat.lt_of_lt_of_le L2.lt k3.size
 clear hT hO k3
 have hA4:=hA.then k4 k4.size
 go_wp2_with fail
 clear s0 s1 hal
 generalize W3.alloc (.cells #[F TA x.t.length tc,F OA x.o.length oc,O U x.got,O U x.sold,O U x.missed] 40)=W4 at hOwn k4 hA4 ⊢
 generalize W3.heap.size=gO at hOwn hgO ⊢
 refine (bc x g st W4 hA4).mono ?_
 rintro e W4b ⟨rfl,hb4⟩
 generalize au x.t st=I0 at hI ⊢
 have hOwn4:=hOwn.then hb4
 have k4b:=k4.trans (hb4.mono k4.size)
 have L1b:=L1.below k4b L1.lt
 have s1:=L1b.cell 1
 simp only [List.getElem?_cons_zero,List.getElem?_cons_succ] at s1
 have q0:W4b.cell? ⟨gO,0,none⟩=some (F TA x.t.length tc):=hOwn4.lies.cell 0
 go_wp2_with fail
 refine (cB TA tc W4b (aA hOwn4.t)).mono ?_
 rintro e W5 ⟨rfl,hb5⟩
 have hOwn5:=hOwn4.then hb5
 have k5:=k4b.trans (hb5.mono k4b.size)
 have L1c:=L1.below k5 L1.lt
 clear s1 q0
 have s1:=L1c.cell 1
 simp only [List.getElem?_cons_zero,List.getElem?_cons_succ] at s1
 have q0:W5.cell? ⟨gO,0,none⟩=some (F TA x.t.length tc):=hOwn5.lies.cell 0
 have al5:=(Below.refl W5.heap.size W5).alloc (Nat.le_refl _) (.cells #[O U st,O U 0] 104)
 have hOwn5a:=hOwn5.then al5
 have cI:=oW W2.heap.size (F TA x.t.length tc) x.t.length (x.t.flatMap ap.enc) (W5.alloc (.cells #[O U st,O U 0] 104)) hOwn5a.t (by omega) i hple ⟨st,0⟩ W5.heap.size 1 (ah.new W5 104 #[O U st,O U 0]) (fun e=>by have:=(hOwn5.t.lt _ e).2; omega) (Nat.le_trans k5.size al5.size) dN
 rw [HFL.out,← hnl] at cI
 clear hnl
 go_wp2_with fail
 clear s1 q0
 generalize W5.alloc (.cells #[O U st,O U 0] 104)=W5a at al5 hOwn5a cI ⊢
 refine cI.mono ?_
 rintro e W5b ⟨v',rfl,HO5,hg5⟩
 obtain ⟨gT,tc',_,rfl,_,_,_⟩:=bH HO5 (by omega)
 have k5b:Below W2.heap.size W2 W5b:=(k5.trans (al5.mono k5.size)).grown hg5 (Nat.le_trans k5.size al5.size) (fun j hj=>(hOwn5a.t.lt j hj).1)
 have hL5:=hOwn5a.lies.kept hg5 (fun e=>hOwn5a.ne_t e.symm)
 have q0:W5b.cell? ⟨gO,0,none⟩=some (F TA x.t.length tc):=hL5.cell 0
 have q1:=hL5.frozen 0
 have hOwn6a:=hOwn5a.setTs hg5 HO5
 have k6a:=k5b.trans ((Below.refl W2.heap.size W5b).grown (ab (g:=gO) (i:=0) (u:=F (some ⟨gT,0,none⟩) T1.length tc') (World.grownBy.refl W5b (some gO))) k5b.size (by rintro _ ⟨⟩; exact hOwn5a.hg))
 have L1f:=L1.below k5b L1.lt
 have s1:=L1f.cell 1
 simp only [List.getElem?_cons_zero,List.getElem?_cons_succ] at s1
 have hneO : ¬ gO=w.heap.size:=by omega
 have hneO' : ¬ w.heap.size=gO:=by omega
 go_wp2_with fail
 generalize W5b.setCell ⟨gO,0,none⟩ (F (some ⟨gT,0,none⟩) T1.length tc')=W6a at hOwn6a k6a ⊢
 refine (bc ((⟨T1,x.o,x.got,x.sold,x.missed⟩ : Oc).at (some ⟨gT,0,none⟩) tc' OA oc) gO st W6a (az.at_ (y:=⟨T1,x.o,x.got,x.sold,x.missed⟩) hOwn6a)).mono ?_
 rintro e W6b ⟨rfl,hb6b⟩
 have hOwn5':=hOwn6a.then hb6b
 have k5':=k6a.trans (hb6b.mono k6a.size)
 clear hneO hneO' s1 q0 q1 L1f hL5 k5b hOwn5a al5 hOwn5 k5 L1c hOwn4 hb4 k4b hA4 cI cB hg5 HO5 hb5 L1b
 rw [show au ((⟨T1,x.o,x.got,x.sold,x.missed⟩ : Oc).at (some ⟨gT,0,none⟩) tc' OA oc).t st=au T1 st from rfl,hIx]
 have L1c:=L1.below k5' L1.lt
 have hA5:=hA.then k5' k5'.size
 have hmf:∀ (fn:Fn) (first cap:Array Value) (w:World),(Instr.makeFunc fn first cap).run Tryz.prog w=.ok (.func fn first cap) w:=fun _ _ _ _=>rfl
 go_wp2_with fail
 refine (cZ (B:=0) L1c hA5 G (Nat.zero_le _)).mono ?_
 rintro e W6 ⟨rfl,hb6⟩
 have hOwn6:=hOwn5'.then hb6
 have k6:=k5'.trans (hb6.mono k5'.size)
 have L1d:=L1.below k6 L1.lt
 obtain ⟨s0,s1,s2,s3⟩:=cells4 L1d
 have k5:=k5'
 clear L1c hA5 hOwn5' hOwn6a hb6b k6a hb6 k4
 generalize aJ st 0 x.o=N at *
 obtain ⟨hNb1,hNb2⟩:=hNb
 have c0:=hOwn6.lies.cell 0
 simp only [List.getElem?_cons_zero] at c0
 obtain ⟨v,hv⟩ : ∃ v,(N == 0)=v:=⟨_,rfl⟩
 cases v
 all_goals
  go_wp2
  obtain ⟨hOt,kt,ct,cf⟩:=az.setT' (y:=⟨T1,x.o,x.got,x.sold,x.missed⟩) (hOwn6.then (Below.refl _ _).drew) hi tr htr (tr.c+va)
  have kd:=k6.drew
  have L1e:=L1.below kd L1.lt
  have u1:=L1e.cell 1
  have u2:=L1e.cell 2
  have u3:=L1e.cell 3
  simp only [List.getElem?_cons_zero,List.getElem?_cons_succ] at u1 u2 u3
  go_still_tail 9,(by kernel_rfl)
  change wpList _ _ _ _ _ W6.drew
  generalize W6.drew=Wd at hOt kt ct cf kd L1e u1 u2 u3 ⊢
  have k7:=kd.trans kt
  have hneT : ¬ gT=w.heap.size:=fun e=>by have:=(hOt.t.lt gT rfl).1; have:=L1.lt; omega
  have hneT' : ¬ w.heap.size=gT:=fun e=>hneT e.symm
  have hneO : ¬ gO=w.heap.size:=by omega
  have hneO' : ¬ w.heap.size=gO:=by omega
  have hneG : ¬ gT=gO:=fun e=>hOt.ne_t (by rw [← e]; rfl)
  have hneG' : ¬ gO=gT:=fun e=>hneG e.symm
  have d2:Wd.cell? ⟨gO,2,none⟩=some (O U x.got):=by
   have:=hOt.lies.cell 2
   rw [World.cell?_setCell_other _ _ _ _ (by simp)] at this
   exact this
  have d2f:Wd.frozen? ⟨gO,2,none⟩=false:=by
   have:=hOt.lies.frozen 2
   rwa [World.frozen?_setCell] at this
  have hOu:=(hOt.setN (x.got+va)).1
  have k8:=k7.trans (hOt.belowN 2 (O U (x.got+va)))
  go_wp2_with fail
  generalize (Wd.setCell ⟨gT,i * 2+1,none⟩ (O U (tr.c+va))).setCell ⟨gO,2,none⟩ (O U (x.got+va))=W8 at hOu k8 ⊢
  replace hO8:∃ vt vo,az W8 W2.heap.size gO vt vo r:=⟨_,_,by rw [hr]; exact hOu⟩
  obtain ⟨vt,vo,hO8⟩:=hO8
  clear hr hOt hOu hOwn6 c0 ct cf u1 u2 u3 s0 s1 s2 s3 L1d L1e kt kd k7 k6 k5 d2 d2f
  obtain ⟨A1,a1,A2,a2,rfl,rfl⟩:=hO8.form
  have cV:=aX (r.at A1 a1 A2 a2) gO W8 (az.at_ (y:=r) hO8)
  rw [Oc.good_at] at cV
  cases hg:r.good
  ·rw [hg] at cV
   have HN:Hid (ba x.c ⟨1,st,0,va⟩=none):=by unfold Hid; rw [HR.out,Oc.fin,hg]; rfl
   clear hg
   go_wp2_with fail
   refine cV.mono ?_
   rintro e W9 ⟨rfl,hb9⟩
   have k9:=k8.trans (hb9.mono k8.size)
   clear hb9 cV
   have L2z:=L2.below k9 L2.lt
   have z0:=L2z.cell 0
   have z1:=L2z.cell 1
   have z2:=L2z.cell 2
   have z3:=L2z.cell 3
   have z4:=L2z.cell 4
   obtain ⟨f0,f1,f2,f3,f4⟩:=frz5 L2z
   simp only [List.getElem?_cons_zero,List.getElem?_cons_succ] at z0 z1 z2 z3 z4
   have hgr:=ab (g:=w.heap.size+1) (i:=4) (u:=O U 0) (ab (g:=w.heap.size+1) (i:=3) (u:=O U 0) (ab (g:=w.heap.size+1) (i:=2) (u:=O U 0) (ab (g:=w.heap.size+1) (i:=1) (u:=F none 0 0) (ab (g:=w.heap.size+1) (i:=0) (u:=F none 0 0) (World.grownBy.refl W9 (some (w.heap.size+1)))))))
   have bw:=b2.trans (k9.mono b2.size)
   have bz:=bw.grown hgr bw.size (by rintro _ ⟨⟩; omega)
   go_wp2
   rw [HN.out]
   refine bodyPost_ret (v:=.tuple #[.agg #[F none 0 0,F none 0 0,O U 0,O U 0,O U 0],.bool false]) (by simp [results,Tryz.results186,go_sem, *]) rfl (aB.no rfl bz)
  ·rw [hg] at cV
   have HN:Hid (ba x.c ⟨1,st,0,va⟩=some r):=by unfold Hid; rw [HR.out,Oc.fin,hg]; rfl
   clear hg
   go_wp2_with fail
   refine cV.mono ?_
   rintro e W9 ⟨rfl,hb9⟩
   have k9:=k8.trans (hb9.mono k8.size)
   have hO9:=hO8.then hb9
   clear hb9 cV hO8
   obtain ⟨c0,c1,c2,c3,c4⟩:=cells5 hO9.lies
   have L2z:=L2.below k9 L2.lt
   have z0:=L2z.cell 0
   have z1:=L2z.cell 1
   have z2:=L2z.cell 2
   have z3:=L2z.cell 3
   have z4:=L2z.cell 4
   obtain ⟨f0,f1,f2,f3,f4⟩:=frz5 L2z
   simp only [List.getElem?_cons_zero,List.getElem?_cons_succ] at z0 z1 z2 z3 z4
   have hgr:=ab (g:=w.heap.size+1) (i:=4) (u:=O U r.missed) (ab (g:=w.heap.size+1) (i:=3) (u:=O U r.sold) (ab (g:=w.heap.size+1) (i:=2) (u:=O U r.got) (ab (g:=w.heap.size+1) (i:=1) (u:=F A2 r.o.length a2) (ab (g:=w.heap.size+1) (i:=0) (u:=F A1 r.t.length a1) (World.grownBy.refl W9 (some (w.heap.size+1)))))))
   have bw:=b2.trans (k9.mono b2.size)
   have bz:=bw.grown hgr bw.size (by rintro _ ⟨⟩; omega)
   have r8:=af (aj hO9.t L2z eE hgr) b2.size
   have r9:=af (aj hO9.o L2z ep hgr) b2.size
   have R8:=Lib.hid r8; clear r8
   have R9:=Lib.hid r9; clear r9
   clear hgr hO9
   go_wp2
   rw [HN.out]
   refine bodyPost_ret (v:=.tuple #[.agg #[F A1 r.t.length a1,F A2 r.o.length a2,O U r.got,O U r.sold,O U r.missed],.bool true]) (by simp [results,Tryz.results186,go_sem, *]) rfl ?_
   exact aB.yes rfl R8.out R9.out bz
set_option maxRecDepth 100000 in
set_option maxHeartbeats 1500000 in
theorem sh (x:aL) (g:Nat) (st pe va:Int) (w:World) (h:bX w w.heap.size g x) (G:bo x) (i:Nat) (hi:i < x.t.length) (hI:au x.t st=i) (hpe:1≤pe∧pe≤999) (hva:1≤va∧va≤999) (hn1:aJ st pe x.o ≠ 0) :
  Calls Tryz.prog 186 #[.pointer (some ⟨g,0,none⟩),.agg #[O U 6,O U st,O U pe,O U va]] w (aB w (ba x.c ⟨6,st,pe,va⟩)):=by
 obtain ⟨r,hr⟩ : ∃ r:Oc,r=⟨x.t,dX st va (aJ st pe x.o) (dX st pe (-aJ st pe x.o) x.o),x.got,x.sold,x.missed⟩:=⟨_,rfl⟩
 have HR:Hid (ba x.c ⟨6,st,pe,va⟩=Oc.fin r):=by
  unfold Hid ba
  rw [if_neg (by simp)]
  rw [if_neg (by show ¬ ¬ 0≤au x.t st; rw [hI]; omega)]
  rw [if_neg (by simp)]
  rw [if_neg (by show ¬ (aJ st pe x.o=0∧0 < pe); omega)]
  rw [if_neg (by simp)]
  rw [if_neg (by simp)]
  rw [if_neg (by simp)]
  rw [hr]
  rfl
 have hNb:=G.at_bd st pe
 have hasc:=G.asc
 have hoc:=G.oc
 have hz0:(0:Int)≤(i:Int):=by omega
 obtain ⟨hpe1,hpe2⟩:=hpe
 obtain ⟨hva1,hva2⟩:=hva
 have hsub:(dX st pe (-aJ st pe x.o) x.o).Sublist x.o:=by
  rw [fM x.o hasc (fun h=>absurd h hn1),show aJ st pe x.o+-aJ st pe x.o=0 by omega]
  exact ew _
 have L1:=(ah.new w 112 #[O U 6,O U st,O U pe,O U va]).alloc (.cells #[F none 0 0,F none 0 0,O U 0,O U 0,O U 0] 40)
 have L2:=ah.new1 w (.cells #[O U 6,O U st,O U pe,O U va] 112) 40 #[F none 0 0,F none 0 0,O U 0,O U 0,O U 0]
 have b1:=(Below.refl w.heap.size w).alloc (Nat.le_refl _) (.cells #[O U 6,O U st,O U pe,O U va] 112)
 have b2:=b1.alloc b1.size (.cells #[F none 0 0,F none 0 0,O U 0,O U 0,O U 0] 40)
 have hA:=h.then b2 b2.size
 have tl:=G.tl
 have ol:=G.ol
 clear b1
 go_enter Tryz.func186,Tryz.ntmps186
 go_wp2_with fail
 generalize ((w.alloc (.cells #[O U 6,O U st,O U pe,O U va] 112)).alloc (.cells #[F none 0 0,F none 0 0,O U 0,O U 0,O U 0] 40))=W2 at L1 L2 b2 hA ⊢
 refine (bT x g W2 hA (by omega) (by omega)).mono ?_
 rintro e W3 ⟨TA,tc,OA,oc,rfl,hT,hO,k3⟩
 obtain ⟨gT,cT,_,hvt,_,_,_⟩:=bH hT (by omega)
 injection hvt with e1 e2 e3
 subst e1; subst e3
 have hal:=(Below.refl W3.heap.size W3).alloc (Nat.le_refl _) (.cells #[F (some ⟨gT,0,none⟩) x.t.length tc,F OA x.o.length oc,O U x.got,O U x.sold,O U x.missed] 40)
 have hOwn:az (W3.alloc (.cells #[F (some ⟨gT,0,none⟩) x.t.length tc,F OA x.o.length oc,O U x.got,O U x.sold,O U x.missed] 40)) W2.heap.size W3.heap.size _ _ x.c:=⟨ah.new W3 40 #[F (some ⟨gT,0,none⟩) x.t.length tc,F OA x.o.length oc,O U x.got,O U x.sold,O U x.missed],k3.size,ac hT hal,ac hO hal⟩
 have k4:=k3.trans (hal.mono k3.size)
 have s0:=(L1.below k4 L1.lt).cell 0
 have s1:=(L1.below k4 L1.lt).cell 1
 simp only [List.getElem?_cons_zero,List.getElem?_cons_succ] at s0 s1
 have hgO:w.heap.size+1 < W3.heap.size:=Nat.lt_of_lt_of_le L2.lt k3.size
 clear hT hO k3
 go_wp2_with fail
 clear s0 s1 hal
 generalize W3.alloc (.cells #[F (some ⟨gT,0,none⟩) x.t.length tc,F OA x.o.length oc,O U x.got,O U x.sold,O U x.missed] 40)=W4 at hOwn k4 ⊢
 generalize W3.heap.size=gO at hOwn hgO ⊢
 refine (bc (x.c.at (some ⟨gT,0,none⟩) tc OA oc) gO st W4 (az.at_ (y:=x.c) hOwn)).mono ?_
 rintro e W5 ⟨rfl,hb5⟩
 have hOwn5:=hOwn.then hb5
 have k5:=k4.trans (hb5.mono k4.size)
 rw [show au (x.c.at (some ⟨gT,0,none⟩) tc OA oc).t st=au x.t st from rfl,hI]
 have L1c:=L1.below k5 L1.lt
 have hA5:=hA.then k5 k5.size
 have hmf:∀ (fn:Fn) (first cap:Array Value) (w:World),(Instr.makeFunc fn first cap).run Tryz.prog w=.ok (.func fn first cap) w:=fun _ _ _ _=>rfl
 go_wp2_with fail
 refine (cZ (B:=0) L1c hA5 G (Nat.zero_le _)).mono ?_
 rintro e W6 ⟨rfl,hb6⟩
 have hOwn6:=hOwn5.then hb6
 have k6:=k5.trans (hb6.mono k5.size)
 have L1d:=L1.below k6 L1.lt
 obtain ⟨s0,s1,s2,s3⟩:=cells4 L1d
 clear L1c hA5 hOwn5 hOwn hb5 hb6 k4
 generalize aJ st pe x.o=N at *
 obtain ⟨hNb1,hNb2⟩:=hNb
 have c0:=hOwn6.lies.cell 0
 simp only [List.getElem?_cons_zero] at c0
 have hn0:(N == 0)=false:=by simp; omega
 have hasc2:mZ (dX st pe (-N) x.o):=hasc.sublist hsub
 have hoc2:∀ o ∈ dX st pe (-N) x.o, -1000000000≤o.c∧o.c≤1000000000:=fun o ho=>hoc o (hsub.subset ho)
 have hl2:=hsub.length_le
 go_wp2_with fail
 have cC:=fA W2.heap.size gO _ _ x.c st pe (-N) W6 hOwn6 k6.size (by exact hasc) (by show x.o.length≤100000; omega) (by exact hoc) (by omega)
 refine cC.mono ?_
 rintro e W7 ⟨vo1,rfl,hO8,hb8⟩
 have k7:=k6.trans hb8
 clear hb8 cC
 have L1e:=L1.below k7 L1.lt
 have u1:=L1e.cell 1
 have u3:=L1e.cell 3
 simp only [List.getElem?_cons_zero,List.getElem?_cons_succ] at u1 u3
 have hO7:az W7 W2.heap.size gO (F (some ⟨gT,0,none⟩) x.t.length tc) vo1 ⟨x.t,dX st pe (-N) x.o,x.got,x.sold,x.missed⟩:=hO8
 clear hO8
 go_wp2_with fail
 have cC:=fA W2.heap.size gO _ _ ⟨x.t,dX st pe (-N) x.o,x.got,x.sold,x.missed⟩ st va N W7 hO7 k7.size (by exact hasc2) (by show (dX st pe (-N) x.o).length≤100000; omega) (by exact hoc2) (by omega)
 refine cC.mono ?_
 rintro e W8 ⟨vo',rfl,hO8,hb8⟩
 have k8:=k7.trans hb8
 clear hb8 cC
 replace hO8:∃ vt,az W8 W2.heap.size gO vt vo' r:=⟨_,by rw [hr]; exact hO8⟩
 obtain ⟨vt,hO8⟩:=hO8
 clear hr
 clear hO7 hOwn6 c0 u1 u3 s0 s1 s2 s3 L1d L1e k7 k6 k5
 obtain ⟨A1,a1,A2,a2,rfl,rfl⟩:=hO8.form
 have cV:=aX (r.at A1 a1 A2 a2) gO W8 (az.at_ (y:=r) hO8)
 rw [Oc.good_at] at cV
 cases hg:r.good
 ·rw [hg] at cV
  have HN:Hid (ba x.c ⟨6,st,pe,va⟩=none):=by unfold Hid; rw [HR.out,Oc.fin,hg]; rfl
  clear hg
  go_wp2_with fail
  refine cV.mono ?_
  rintro e W9 ⟨rfl,hb9⟩
  have k9:=k8.trans (hb9.mono k8.size)
  clear hb9 cV
  have L2z:=L2.below k9 L2.lt
  have z0:=L2z.cell 0
  have z1:=L2z.cell 1
  have z2:=L2z.cell 2
  have z3:=L2z.cell 3
  have z4:=L2z.cell 4
  obtain ⟨f0,f1,f2,f3,f4⟩:=frz5 L2z
  simp only [List.getElem?_cons_zero,List.getElem?_cons_succ] at z0 z1 z2 z3 z4
  have hgr:=ab (g:=w.heap.size+1) (i:=4) (u:=O U 0) (ab (g:=w.heap.size+1) (i:=3) (u:=O U 0) (ab (g:=w.heap.size+1) (i:=2) (u:=O U 0) (ab (g:=w.heap.size+1) (i:=1) (u:=F none 0 0) (ab (g:=w.heap.size+1) (i:=0) (u:=F none 0 0) (World.grownBy.refl W9 (some (w.heap.size+1)))))))
  have bw:=b2.trans (k9.mono b2.size)
  have bz:=bw.grown hgr bw.size (by rintro _ ⟨⟩; omega)
  go_wp2
  rw [HN.out]
  refine bodyPost_ret (v:=.tuple #[.agg #[F none 0 0,F none 0 0,O U 0,O U 0,O U 0],.bool false]) (by simp [results,Tryz.results186,go_sem, *]) rfl (aB.no rfl bz)
 ·rw [hg] at cV
  have HN:Hid (ba x.c ⟨6,st,pe,va⟩=some r):=by unfold Hid; rw [HR.out,Oc.fin,hg]; rfl
  clear hg
  go_wp2_with fail
  refine cV.mono ?_
  rintro e W9 ⟨rfl,hb9⟩
  have k9:=k8.trans (hb9.mono k8.size)
  have hO9:=hO8.then hb9
  clear hb9 cV hO8
  obtain ⟨c0,c1,c2,c3,c4⟩:=cells5 hO9.lies
  have L2z:=L2.below k9 L2.lt
  have z0:=L2z.cell 0
  have z1:=L2z.cell 1
  have z2:=L2z.cell 2
  have z3:=L2z.cell 3
  have z4:=L2z.cell 4
  obtain ⟨f0,f1,f2,f3,f4⟩:=frz5 L2z
  simp only [List.getElem?_cons_zero,List.getElem?_cons_succ] at z0 z1 z2 z3 z4
  have hgr:=ab (g:=w.heap.size+1) (i:=4) (u:=O U r.missed) (ab (g:=w.heap.size+1) (i:=3) (u:=O U r.sold) (ab (g:=w.heap.size+1) (i:=2) (u:=O U r.got) (ab (g:=w.heap.size+1) (i:=1) (u:=F A2 r.o.length a2) (ab (g:=w.heap.size+1) (i:=0) (u:=F A1 r.t.length a1) (World.grownBy.refl W9 (some (w.heap.size+1)))))))
  have bw:=b2.trans (k9.mono b2.size)
  have bz:=bw.grown hgr bw.size (by rintro _ ⟨⟩; omega)
  have r8:=af (aj hO9.t L2z eE hgr) b2.size
  have r9:=af (aj hO9.o L2z ep hgr) b2.size
  have R8:=Lib.hid r8; clear r8
  have R9:=Lib.hid r9; clear r9
  clear hgr hO9
  go_wp2
  rw [HN.out]
  refine bodyPost_ret (v:=.tuple #[.agg #[F A1 r.t.length a1,F A2 r.o.length a2,O U r.got,O U r.sold,O U r.missed],.bool true]) (by simp [results,Tryz.results186,go_sem, *]) rfl ?_
  exact aB.yes rfl R8.out R9.out bz
set_option maxRecDepth 100000 in
set_option maxHeartbeats 1500000 in
theorem qE (x:aL) (g:Nat) (st pe va:Int) (w:World) (h:bX w w.heap.size g x) (G:bo x) (i:Nat) (hi:i < x.t.length) (hI:au x.t st=i) (hpe:pe=0) (hva:1≤va∧va≤9999) :
  Calls Tryz.prog 186 #[.pointer (some ⟨g,0,none⟩),.agg #[O U 4,O U st,O U pe,O U va]] w (aB w (ba x.c ⟨4,st,pe,va⟩)):=by
 subst hpe
 obtain ⟨tr,htr⟩ : ∃ tr,x.c.t[i]=tr:=⟨_,rfl⟩
 obtain ⟨r,hr⟩ : ∃ r:Oc,r=⟨x.t.set i ⟨tr.k,tr.c - va⟩,x.o,x.got,x.sold+va,x.missed⟩:=⟨_,rfl⟩
 have HR:Hid (ba x.c ⟨4,st,0,va⟩=Oc.fin r):=by
  unfold Hid ba
  rw [if_neg (by simp)]
  rw [if_neg (by show ¬ ¬ 0≤au x.t st; rw [hI]; omega)]
  rw [if_neg (by simp)]
  rw [if_neg (by show ¬ (aJ st 0 x.o=0∧(0:Int) < 0); omega)]
  rw [if_neg (by simp)]
  rw [if_pos rfl,if_pos rfl]
  rw [show ai x.c.t st (-va)=x.t.set i ⟨tr.k,tr.c - va⟩ from by show ai x.t st _=_; rw [gw hI hi,show x.t[i]=tr from htr,← Int.sub_eq_add_neg]]
  rw [hr]
  rfl
 have hNb:=G.at_bd st 0
 have hasc:=G.asc
 have hoc:=G.oc
 have hz0:(0:Int)≤(i:Int):=by omega
 have htb:=(ap.bounds (G.tall i hi)).2
 rw [show x.t[i]=tr from htr] at htb
 obtain ⟨htb1,htb2⟩:=htb
 obtain ⟨hva1,hva2⟩:=hva
 have L1:=(ah.new w 112 #[O U 4,O U st,O U 0,O U va]).alloc (.cells #[F none 0 0,F none 0 0,O U 0,O U 0,O U 0] 40)
 have L2:=ah.new1 w (.cells #[O U 4,O U st,O U 0,O U va] 112) 40 #[F none 0 0,F none 0 0,O U 0,O U 0,O U 0]
 have b1:=(Below.refl w.heap.size w).alloc (Nat.le_refl _) (.cells #[O U 4,O U st,O U 0,O U va] 112)
 have b2:=b1.alloc b1.size (.cells #[F none 0 0,F none 0 0,O U 0,O U 0,O U 0] 40)
 have hA:=h.then b2 b2.size
 have tl:=G.tl
 have ol:=G.ol
 clear b1
 go_enter Tryz.func186,Tryz.ntmps186
 go_wp2_with fail
 generalize ((w.alloc (.cells #[O U 4,O U st,O U 0,O U va] 112)).alloc (.cells #[F none 0 0,F none 0 0,O U 0,O U 0,O U 0] 40))=W2 at L1 L2 b2 hA ⊢
 refine (bT x g W2 hA (by omega) (by omega)).mono ?_
 rintro e W3 ⟨TA,tc,OA,oc,rfl,hT,hO,k3⟩
 obtain ⟨gT,cT,_,hvt,_,_,_⟩:=bH hT (by omega)
 injection hvt with e1 e2 e3
 subst e1; subst e3
 have hal:=(Below.refl W3.heap.size W3).alloc (Nat.le_refl _) (.cells #[F (some ⟨gT,0,none⟩) x.t.length tc,F OA x.o.length oc,O U x.got,O U x.sold,O U x.missed] 40)
 have hOwn:az (W3.alloc (.cells #[F (some ⟨gT,0,none⟩) x.t.length tc,F OA x.o.length oc,O U x.got,O U x.sold,O U x.missed] 40)) W2.heap.size W3.heap.size _ _ x.c:=⟨ah.new W3 40 #[F (some ⟨gT,0,none⟩) x.t.length tc,F OA x.o.length oc,O U x.got,O U x.sold,O U x.missed],k3.size,ac hT hal,ac hO hal⟩
 have k4:=k3.trans (hal.mono k3.size)
 have s0:=(L1.below k4 L1.lt).cell 0
 have s1:=(L1.below k4 L1.lt).cell 1
 simp only [List.getElem?_cons_zero,List.getElem?_cons_succ] at s0 s1
 have hgO:w.heap.size+1 < W3.heap.size:=Nat.lt_of_lt_of_le L2.lt k3.size
 clear hT hO k3
 go_wp2_with fail
 clear s0 s1 hal
 generalize W3.alloc (.cells #[F (some ⟨gT,0,none⟩) x.t.length tc,F OA x.o.length oc,O U x.got,O U x.sold,O U x.missed] 40)=W4 at hOwn k4 ⊢
 generalize W3.heap.size=gO at hOwn hgO ⊢
 refine (bc (x.c.at (some ⟨gT,0,none⟩) tc OA oc) gO st W4 (az.at_ (y:=x.c) hOwn)).mono ?_
 rintro e W5 ⟨rfl,hb5⟩
 have hOwn5:=hOwn.then hb5
 have k5:=k4.trans (hb5.mono k4.size)
 rw [show au (x.c.at (some ⟨gT,0,none⟩) tc OA oc).t st=au x.t st from rfl,hI]
 have L1c:=L1.below k5 L1.lt
 have hA5:=hA.then k5 k5.size
 have hmf:∀ (fn:Fn) (first cap:Array Value) (w:World),(Instr.makeFunc fn first cap).run Tryz.prog w=.ok (.func fn first cap) w:=fun _ _ _ _=>rfl
 go_wp2_with fail
 refine (cZ (B:=0) L1c hA5 G (Nat.zero_le _)).mono ?_
 rintro e W6 ⟨rfl,hb6⟩
 have hOwn6:=hOwn5.then hb6
 have k6:=k5.trans (hb6.mono k5.size)
 have L1d:=L1.below k6 L1.lt
 obtain ⟨s0,s1,s2,s3⟩:=cells4 L1d
 clear L1c hA5 hOwn5 hOwn hb5 hb6 k4
 generalize aJ st 0 x.o=N at *
 obtain ⟨hNb1,hNb2⟩:=hNb
 have c0:=hOwn6.lies.cell 0
 simp only [List.getElem?_cons_zero] at c0
 have d3:W6.cell? ⟨gO,3,none⟩=some (O U x.sold):=hOwn6.lies.cell 3
 have d4:W6.cell? ⟨gO,4,none⟩=some (O U x.missed):=hOwn6.lies.cell 4
 have d3f:=hOwn6.lies.frozen 3
 have d4f:=hOwn6.lies.frozen 4
 have hneO : ¬ gO=w.heap.size:=by omega
 have hneO' : ¬ w.heap.size=gO:=by omega
 have hgs:=G.s
 have hgm:=G.m
 have hgg:=G.g
 obtain ⟨hgs1,hgs2⟩:=hgs
 obtain ⟨hgm1,hgm2⟩:=hgm
 obtain ⟨hgg1,hgg2⟩:=hgg
 have hOs:=(hOwn6.setN (x.sold+va)).2.1
 have k7:=k6.trans (hOwn6.belowN 3 (O U (x.sold+va)))
 obtain ⟨hOt0,kt0,ct0,cf0⟩:=az.setT' (y:=x.c) hOwn6 hi tr htr 0
 obtain ⟨v,hv⟩ : ∃ v,(N == 0)=v:=⟨_,rfl⟩
 clear hOt0 kt0 ct0 cf0
 cases v
 all_goals
  go_wp2
  generalize W6.setCell ⟨gO,3,none⟩ (O U (x.sold+va))=W7 at hOs k7 ⊢
  obtain ⟨hOt,kt,ct,cf⟩:=az.setT' (y:=⟨x.t,x.o,x.got,x.sold+va,x.missed⟩) (hOs.then (Below.refl _ _).drew) hi tr htr (tr.c - va)
  have kd:=k7.drew
  have L1e:=L1.below kd L1.lt
  have u1:=L1e.cell 1
  have u2:=L1e.cell 2
  have u3:=L1e.cell 3
  simp only [List.getElem?_cons_zero,List.getElem?_cons_succ] at u1 u2 u3
  go_still_tail 9,(by kernel_rfl)
  change wpList _ _ _ _ _ W7.drew
  generalize W7.drew=Wd at hOt kt ct cf kd L1e u1 u2 u3 ⊢
  have k8:=kd.trans kt
  have hneT : ¬ gT=w.heap.size:=fun e=>by have:=(hOt.t.lt gT rfl).1; have:=L1.lt; omega
  have hneT' : ¬ w.heap.size=gT:=fun e=>hneT e.symm
  go_wp2_with fail
  generalize Wd.setCell ⟨gT,i * 2+1,none⟩ (O U (tr.c - va))=W8 at hOt k8 ⊢
  replace hO8:∃ vt vo,az W8 W2.heap.size gO vt vo r:=⟨_,_,by rw [hr]; exact hOt⟩
  obtain ⟨vt,vo,hO8⟩:=hO8
  clear hr hOt hOs hOwn6 c0 ct cf u1 u2 u3 s0 s1 s2 s3 L1d L1e kt kd k7 k6 k5
  obtain ⟨A1,a1,A2,a2,rfl,rfl⟩:=hO8.form
  have cV:=aX (r.at A1 a1 A2 a2) gO W8 (az.at_ (y:=r) hO8)
  rw [Oc.good_at] at cV
  cases hg:r.good
  ·rw [hg] at cV
   have HN:Hid (ba x.c ⟨4,st,0,va⟩=none):=by unfold Hid; rw [HR.out,Oc.fin,hg]; rfl
   clear hg
   go_wp2_with fail
   refine cV.mono ?_
   rintro e W9 ⟨rfl,hb9⟩
   have k9:=k8.trans (hb9.mono k8.size)
   clear hb9 cV
   have L2z:=L2.below k9 L2.lt
   have z0:=L2z.cell 0
   have z1:=L2z.cell 1
   have z2:=L2z.cell 2
   have z3:=L2z.cell 3
   have z4:=L2z.cell 4
   obtain ⟨f0,f1,f2,f3,f4⟩:=frz5 L2z
   simp only [List.getElem?_cons_zero,List.getElem?_cons_succ] at z0 z1 z2 z3 z4
   have hgr:=ab (g:=w.heap.size+1) (i:=4) (u:=O U 0) (ab (g:=w.heap.size+1) (i:=3) (u:=O U 0) (ab (g:=w.heap.size+1) (i:=2) (u:=O U 0) (ab (g:=w.heap.size+1) (i:=1) (u:=F none 0 0) (ab (g:=w.heap.size+1) (i:=0) (u:=F none 0 0) (World.grownBy.refl W9 (some (w.heap.size+1)))))))
   have bw:=b2.trans (k9.mono b2.size)
   have bz:=bw.grown hgr bw.size (by rintro _ ⟨⟩; omega)
   go_wp2
   rw [HN.out]
   refine bodyPost_ret (v:=.tuple #[.agg #[F none 0 0,F none 0 0,O U 0,O U 0,O U 0],.bool false]) (by simp [results,Tryz.results186,go_sem, *]) rfl (aB.no rfl bz)
  ·rw [hg] at cV
   have HN:Hid (ba x.c ⟨4,st,0,va⟩=some r):=by unfold Hid; rw [HR.out,Oc.fin,hg]; rfl
   clear hg
   go_wp2_with fail
   refine cV.mono ?_
   rintro e W9 ⟨rfl,hb9⟩
   have k9:=k8.trans (hb9.mono k8.size)
   have hO9:=hO8.then hb9
   clear hb9 cV hO8
   obtain ⟨c0,c1,c2,c3,c4⟩:=cells5 hO9.lies
   have L2z:=L2.below k9 L2.lt
   have z0:=L2z.cell 0
   have z1:=L2z.cell 1
   have z2:=L2z.cell 2
   have z3:=L2z.cell 3
   have z4:=L2z.cell 4
   obtain ⟨f0,f1,f2,f3,f4⟩:=frz5 L2z
   simp only [List.getElem?_cons_zero,List.getElem?_cons_succ] at z0 z1 z2 z3 z4
   have hgr:=ab (g:=w.heap.size+1) (i:=4) (u:=O U r.missed) (ab (g:=w.heap.size+1) (i:=3) (u:=O U r.sold) (ab (g:=w.heap.size+1) (i:=2) (u:=O U r.got) (ab (g:=w.heap.size+1) (i:=1) (u:=F A2 r.o.length a2) (ab (g:=w.heap.size+1) (i:=0) (u:=F A1 r.t.length a1) (World.grownBy.refl W9 (some (w.heap.size+1)))))))
   have bw:=b2.trans (k9.mono b2.size)
   have bz:=bw.grown hgr bw.size (by rintro _ ⟨⟩; omega)
   have r8:=af (aj hO9.t L2z eE hgr) b2.size
   have r9:=af (aj hO9.o L2z ep hgr) b2.size
   have R8:=Lib.hid r8; clear r8
   have R9:=Lib.hid r9; clear r9
   clear hgr hO9
   go_wp2
   rw [HN.out]
   refine bodyPost_ret (v:=.tuple #[.agg #[F A1 r.t.length a1,F A2 r.o.length a2,O U r.got,O U r.sold,O U r.missed],.bool true]) (by simp [results,Tryz.results186,go_sem, *]) rfl ?_
   exact aB.yes rfl R8.out R9.out bz
set_option maxRecDepth 100000 in
set_option maxHeartbeats 1500000 in
theorem si (x:aL) (g:Nat) (st pe va:Int) (w:World) (h:bX w w.heap.size g x) (G:bo x) (i:Nat) (hi:i < x.t.length) (hI:au x.t st=i) (hpe:1≤pe∧pe≤999) (hn1:aJ st pe x.o ≠ 0) :
  Calls Tryz.prog 186 #[.pointer (some ⟨g,0,none⟩),.agg #[O U 5,O U st,O U pe,O U va]] w (aB w (ba x.c ⟨5,st,pe,va⟩)):=by
 obtain ⟨r,hr⟩ : ∃ r:Oc,r=⟨x.t,dX st pe (-aJ st pe x.o) x.o,x.got,x.sold,x.missed+aJ st pe x.o⟩:=⟨_,rfl⟩
 have HR:Hid (ba x.c ⟨5,st,pe,va⟩=Oc.fin r):=by
  unfold Hid ba
  rw [if_neg (by simp)]
  rw [if_neg (by show ¬ ¬ 0≤au x.t st; rw [hI]; omega)]
  rw [if_neg (by simp)]
  rw [if_neg (by show ¬ (aJ st pe x.o=0∧0 < pe); omega)]
  rw [if_neg (by simp)]
  rw [if_neg (by simp)]
  rw [if_pos rfl]
  rw [hr]
  rfl
 have hNb:=G.at_bd st pe
 have hasc:=G.asc
 have hoc:=G.oc
 have hz0:(0:Int)≤(i:Int):=by omega
 obtain ⟨hpe1,hpe2⟩:=hpe
 have L1:=(ah.new w 112 #[O U 5,O U st,O U pe,O U va]).alloc (.cells #[F none 0 0,F none 0 0,O U 0,O U 0,O U 0] 40)
 have L2:=ah.new1 w (.cells #[O U 5,O U st,O U pe,O U va] 112) 40 #[F none 0 0,F none 0 0,O U 0,O U 0,O U 0]
 have b1:=(Below.refl w.heap.size w).alloc (Nat.le_refl _) (.cells #[O U 5,O U st,O U pe,O U va] 112)
 have b2:=b1.alloc b1.size (.cells #[F none 0 0,F none 0 0,O U 0,O U 0,O U 0] 40)
 have hA:=h.then b2 b2.size
 have tl:=G.tl
 have ol:=G.ol
 clear b1
 go_enter Tryz.func186,Tryz.ntmps186
 go_wp2_with fail
 generalize ((w.alloc (.cells #[O U 5,O U st,O U pe,O U va] 112)).alloc (.cells #[F none 0 0,F none 0 0,O U 0,O U 0,O U 0] 40))=W2 at L1 L2 b2 hA ⊢
 refine (bT x g W2 hA (by omega) (by omega)).mono ?_
 rintro e W3 ⟨TA,tc,OA,oc,rfl,hT,hO,k3⟩
 obtain ⟨gT,cT,_,hvt,_,_,_⟩:=bH hT (by omega)
 injection hvt with e1 e2 e3
 subst e1; subst e3
 have hal:=(Below.refl W3.heap.size W3).alloc (Nat.le_refl _) (.cells #[F (some ⟨gT,0,none⟩) x.t.length tc,F OA x.o.length oc,O U x.got,O U x.sold,O U x.missed] 40)
 have hOwn:az (W3.alloc (.cells #[F (some ⟨gT,0,none⟩) x.t.length tc,F OA x.o.length oc,O U x.got,O U x.sold,O U x.missed] 40)) W2.heap.size W3.heap.size _ _ x.c:=⟨ah.new W3 40 #[F (some ⟨gT,0,none⟩) x.t.length tc,F OA x.o.length oc,O U x.got,O U x.sold,O U x.missed],k3.size,ac hT hal,ac hO hal⟩
 have k4:=k3.trans (hal.mono k3.size)
 have s0:=(L1.below k4 L1.lt).cell 0
 have s1:=(L1.below k4 L1.lt).cell 1
 simp only [List.getElem?_cons_zero,List.getElem?_cons_succ] at s0 s1
 have hgO:w.heap.size+1 < W3.heap.size:=Nat.lt_of_lt_of_le L2.lt k3.size
 clear hT hO k3
 go_wp2_with fail
 clear s0 s1 hal
 generalize W3.alloc (.cells #[F (some ⟨gT,0,none⟩) x.t.length tc,F OA x.o.length oc,O U x.got,O U x.sold,O U x.missed] 40)=W4 at hOwn k4 ⊢
 generalize W3.heap.size=gO at hOwn hgO ⊢
 refine (bc (x.c.at (some ⟨gT,0,none⟩) tc OA oc) gO st W4 (az.at_ (y:=x.c) hOwn)).mono ?_
 rintro e W5 ⟨rfl,hb5⟩
 have hOwn5:=hOwn.then hb5
 have k5:=k4.trans (hb5.mono k4.size)
 rw [show au (x.c.at (some ⟨gT,0,none⟩) tc OA oc).t st=au x.t st from rfl,hI]
 have L1c:=L1.below k5 L1.lt
 have hA5:=hA.then k5 k5.size
 have hmf:∀ (fn:Fn) (first cap:Array Value) (w:World),(Instr.makeFunc fn first cap).run Tryz.prog w=.ok (.func fn first cap) w:=fun _ _ _ _=>rfl
 go_wp2_with fail
 refine (cZ (B:=0) L1c hA5 G (Nat.zero_le _)).mono ?_
 rintro e W6 ⟨rfl,hb6⟩
 have hOwn6:=hOwn5.then hb6
 have k6:=k5.trans (hb6.mono k5.size)
 have L1d:=L1.below k6 L1.lt
 obtain ⟨s0,s1,s2,s3⟩:=cells4 L1d
 clear L1c hA5 hOwn5 hOwn hb5 hb6 k4
 generalize aJ st pe x.o=N at *
 obtain ⟨hNb1,hNb2⟩:=hNb
 have c0:=hOwn6.lies.cell 0
 simp only [List.getElem?_cons_zero] at c0
 have hn0:(N == 0)=false:=by simp; omega
 have d3:W6.cell? ⟨gO,3,none⟩=some (O U x.sold):=hOwn6.lies.cell 3
 have d4:W6.cell? ⟨gO,4,none⟩=some (O U x.missed):=hOwn6.lies.cell 4
 have d3f:=hOwn6.lies.frozen 3
 have d4f:=hOwn6.lies.frozen 4
 have hneO : ¬ gO=w.heap.size:=by omega
 have hneO' : ¬ w.heap.size=gO:=by omega
 have hgs:=G.s
 have hgm:=G.m
 have hgg:=G.g
 obtain ⟨hgs1,hgs2⟩:=hgs
 obtain ⟨hgm1,hgm2⟩:=hgm
 obtain ⟨hgg1,hgg2⟩:=hgg
 have hOt:=(hOwn6.setN (x.missed+N)).2.2
 have k7:=k6.trans (hOwn6.belowN 4 (O U (x.missed+N)))
 go_wp2_with fail
 generalize W6.setCell ⟨gO,4,none⟩ (O U (x.missed+N))=W7 at hOt k7 ⊢
 have cC:=fA W2.heap.size gO _ _ ⟨x.t,x.o,x.got,x.sold,x.missed+N⟩ st pe (-N) W7 hOt k7.size (by exact hasc) (by show x.o.length≤100000; omega) (by exact hoc) (by omega)
 refine cC.mono ?_
 rintro e W8 ⟨vo',rfl,hO8,hb8⟩
 have k8:=k7.trans hb8
 clear hb8 cC
 replace hO8:∃ vt,az W8 W2.heap.size gO vt vo' r:=⟨_,by rw [hr]; exact hO8⟩
 obtain ⟨vt,hO8⟩:=hO8
 clear hr
 clear hOt hOwn6 c0 d3 d4 d3f d4f s0 s1 s2 s3 L1d k7 k6 k5
 obtain ⟨A1,a1,A2,a2,rfl,rfl⟩:=hO8.form
 have cV:=aX (r.at A1 a1 A2 a2) gO W8 (az.at_ (y:=r) hO8)
 rw [Oc.good_at] at cV
 cases hg:r.good
 ·rw [hg] at cV
  have HN:Hid (ba x.c ⟨5,st,pe,va⟩=none):=by unfold Hid; rw [HR.out,Oc.fin,hg]; rfl
  clear hg
  go_wp2_with fail
  refine cV.mono ?_
  rintro e W9 ⟨rfl,hb9⟩
  have k9:=k8.trans (hb9.mono k8.size)
  clear hb9 cV
  have L2z:=L2.below k9 L2.lt
  have z0:=L2z.cell 0
  have z1:=L2z.cell 1
  have z2:=L2z.cell 2
  have z3:=L2z.cell 3
  have z4:=L2z.cell 4
  obtain ⟨f0,f1,f2,f3,f4⟩:=frz5 L2z
  simp only [List.getElem?_cons_zero,List.getElem?_cons_succ] at z0 z1 z2 z3 z4
  have hgr:=ab (g:=w.heap.size+1) (i:=4) (u:=O U 0) (ab (g:=w.heap.size+1) (i:=3) (u:=O U 0) (ab (g:=w.heap.size+1) (i:=2) (u:=O U 0) (ab (g:=w.heap.size+1) (i:=1) (u:=F none 0 0) (ab (g:=w.heap.size+1) (i:=0) (u:=F none 0 0) (World.grownBy.refl W9 (some (w.heap.size+1)))))))
  have bw:=b2.trans (k9.mono b2.size)
  have bz:=bw.grown hgr bw.size (by rintro _ ⟨⟩; omega)
  go_wp2
  rw [HN.out]
  refine bodyPost_ret (v:=.tuple #[.agg #[F none 0 0,F none 0 0,O U 0,O U 0,O U 0],.bool false]) (by simp [results,Tryz.results186,go_sem, *]) rfl (aB.no rfl bz)
 ·rw [hg] at cV
  have HN:Hid (ba x.c ⟨5,st,pe,va⟩=some r):=by unfold Hid; rw [HR.out,Oc.fin,hg]; rfl
  clear hg
  go_wp2_with fail
  refine cV.mono ?_
  rintro e W9 ⟨rfl,hb9⟩
  have k9:=k8.trans (hb9.mono k8.size)
  have hO9:=hO8.then hb9
  clear hb9 cV hO8
  obtain ⟨c0,c1,c2,c3,c4⟩:=cells5 hO9.lies
  have L2z:=L2.below k9 L2.lt
  have z0:=L2z.cell 0
  have z1:=L2z.cell 1
  have z2:=L2z.cell 2
  have z3:=L2z.cell 3
  have z4:=L2z.cell 4
  obtain ⟨f0,f1,f2,f3,f4⟩:=frz5 L2z
  simp only [List.getElem?_cons_zero,List.getElem?_cons_succ] at z0 z1 z2 z3 z4
  have hgr:=ab (g:=w.heap.size+1) (i:=4) (u:=O U r.missed) (ab (g:=w.heap.size+1) (i:=3) (u:=O U r.sold) (ab (g:=w.heap.size+1) (i:=2) (u:=O U r.got) (ab (g:=w.heap.size+1) (i:=1) (u:=F A2 r.o.length a2) (ab (g:=w.heap.size+1) (i:=0) (u:=F A1 r.t.length a1) (World.grownBy.refl W9 (some (w.heap.size+1)))))))
  have bw:=b2.trans (k9.mono b2.size)
  have bz:=bw.grown hgr bw.size (by rintro _ ⟨⟩; omega)
  have r8:=af (aj hO9.t L2z eE hgr) b2.size
  have r9:=af (aj hO9.o L2z ep hgr) b2.size
  have R8:=Lib.hid r8; clear r8
  have R9:=Lib.hid r9; clear r9
  clear hgr hO9
  go_wp2
  rw [HN.out]
  refine bodyPost_ret (v:=.tuple #[.agg #[F A1 r.t.length a1,F A2 r.o.length a2,O U r.got,O U r.sold,O U r.missed],.bool true]) (by simp [results,Tryz.results186,go_sem, *]) rfl ?_
  exact aB.yes rfl R8.out R9.out bz
set_option maxRecDepth 100000 in
set_option maxHeartbeats 1500000 in
theorem sj (x:aL) (g:Nat) (st pe va:Int) (w:World) (h:bX w w.heap.size g x) (G:bo x) (i:Nat) (hi:i < x.t.length) (hI:au x.t st=i) (hpe:1≤pe∧pe≤999) (hva:1≤va∧va≤9999) (hn1:aJ st pe x.o ≠ 0) :
  Calls Tryz.prog 186 #[.pointer (some ⟨g,0,none⟩),.agg #[O U 4,O U st,O U pe,O U va]] w (aB w (ba x.c ⟨4,st,pe,va⟩)):=by
 obtain ⟨r,hr⟩ : ∃ r:Oc,r=⟨x.t,dX st pe (-va) x.o,x.got,x.sold+va,x.missed⟩:=⟨_,rfl⟩
 have HR:Hid (ba x.c ⟨4,st,pe,va⟩=Oc.fin r):=by
  unfold Hid ba
  rw [if_neg (by simp)]
  rw [if_neg (by show ¬ ¬ 0≤au x.t st; rw [hI]; omega)]
  rw [if_neg (by simp)]
  rw [if_neg (by show ¬ (aJ st pe x.o=0∧0 < pe); omega)]
  rw [if_neg (by simp)]
  rw [if_pos rfl,if_neg (by show ¬ pe=0; omega)]
  rw [hr]
  rfl
 have hNb:=G.at_bd st pe
 have hasc:=G.asc
 have hoc:=G.oc
 have hz0:(0:Int)≤(i:Int):=by omega
 obtain ⟨hpe1,hpe2⟩:=hpe
 obtain ⟨hva1,hva2⟩:=hva
 have hp0:(pe == 0)=false:=by simp; omega
 have L1:=(ah.new w 112 #[O U 4,O U st,O U pe,O U va]).alloc (.cells #[F none 0 0,F none 0 0,O U 0,O U 0,O U 0] 40)
 have L2:=ah.new1 w (.cells #[O U 4,O U st,O U pe,O U va] 112) 40 #[F none 0 0,F none 0 0,O U 0,O U 0,O U 0]
 have b1:=(Below.refl w.heap.size w).alloc (Nat.le_refl _) (.cells #[O U 4,O U st,O U pe,O U va] 112)
 have b2:=b1.alloc b1.size (.cells #[F none 0 0,F none 0 0,O U 0,O U 0,O U 0] 40)
 have hA:=h.then b2 b2.size
 have tl:=G.tl
 have ol:=G.ol
 clear b1
 go_enter Tryz.func186,Tryz.ntmps186
 go_wp2_with fail
 generalize ((w.alloc (.cells #[O U 4,O U st,O U pe,O U va] 112)).alloc (.cells #[F none 0 0,F none 0 0,O U 0,O U 0,O U 0] 40))=W2 at L1 L2 b2 hA ⊢
 refine (bT x g W2 hA (by omega) (by omega)).mono ?_
 rintro e W3 ⟨TA,tc,OA,oc,rfl,hT,hO,k3⟩
 obtain ⟨gT,cT,_,hvt,_,_,_⟩:=bH hT (by omega)
 injection hvt with e1 e2 e3
 subst e1; subst e3
 have hal:=(Below.refl W3.heap.size W3).alloc (Nat.le_refl _) (.cells #[F (some ⟨gT,0,none⟩) x.t.length tc,F OA x.o.length oc,O U x.got,O U x.sold,O U x.missed] 40)
 have hOwn:az (W3.alloc (.cells #[F (some ⟨gT,0,none⟩) x.t.length tc,F OA x.o.length oc,O U x.got,O U x.sold,O U x.missed] 40)) W2.heap.size W3.heap.size _ _ x.c:=⟨ah.new W3 40 #[F (some ⟨gT,0,none⟩) x.t.length tc,F OA x.o.length oc,O U x.got,O U x.sold,O U x.missed],k3.size,ac hT hal,ac hO hal⟩
 have k4:=k3.trans (hal.mono k3.size)
 have s0:=(L1.below k4 L1.lt).cell 0
 have s1:=(L1.below k4 L1.lt).cell 1
 simp only [List.getElem?_cons_zero,List.getElem?_cons_succ] at s0 s1
 have hgO:w.heap.size+1 < W3.heap.size:=Nat.lt_of_lt_of_le L2.lt k3.size
 clear hT hO k3
 go_wp2_with fail
 clear s0 s1 hal
 generalize W3.alloc (.cells #[F (some ⟨gT,0,none⟩) x.t.length tc,F OA x.o.length oc,O U x.got,O U x.sold,O U x.missed] 40)=W4 at hOwn k4 ⊢
 generalize W3.heap.size=gO at hOwn hgO ⊢
 refine (bc (x.c.at (some ⟨gT,0,none⟩) tc OA oc) gO st W4 (az.at_ (y:=x.c) hOwn)).mono ?_
 rintro e W5 ⟨rfl,hb5⟩
 have hOwn5:=hOwn.then hb5
 have k5:=k4.trans (hb5.mono k4.size)
 rw [show au (x.c.at (some ⟨gT,0,none⟩) tc OA oc).t st=au x.t st from rfl,hI]
 have L1c:=L1.below k5 L1.lt
 have hA5:=hA.then k5 k5.size
 have hmf:∀ (fn:Fn) (first cap:Array Value) (w:World),(Instr.makeFunc fn first cap).run Tryz.prog w=.ok (.func fn first cap) w:=fun _ _ _ _=>rfl
 go_wp2_with fail
 refine (cZ (B:=0) L1c hA5 G (Nat.zero_le _)).mono ?_
 rintro e W6 ⟨rfl,hb6⟩
 have hOwn6:=hOwn5.then hb6
 have k6:=k5.trans (hb6.mono k5.size)
 have L1d:=L1.below k6 L1.lt
 obtain ⟨s0,s1,s2,s3⟩:=cells4 L1d
 clear L1c hA5 hOwn5 hOwn hb5 hb6 k4
 generalize aJ st pe x.o=N at *
 obtain ⟨hNb1,hNb2⟩:=hNb
 have c0:=hOwn6.lies.cell 0
 simp only [List.getElem?_cons_zero] at c0
 have hn0:(N == 0)=false:=by simp; omega
 have d3:W6.cell? ⟨gO,3,none⟩=some (O U x.sold):=hOwn6.lies.cell 3
 have d4:W6.cell? ⟨gO,4,none⟩=some (O U x.missed):=hOwn6.lies.cell 4
 have d3f:=hOwn6.lies.frozen 3
 have d4f:=hOwn6.lies.frozen 4
 have hneO : ¬ gO=w.heap.size:=by omega
 have hneO' : ¬ w.heap.size=gO:=by omega
 have hgs:=G.s
 have hgm:=G.m
 have hgg:=G.g
 obtain ⟨hgs1,hgs2⟩:=hgs
 obtain ⟨hgm1,hgm2⟩:=hgm
 obtain ⟨hgg1,hgg2⟩:=hgg
 have hOt:=(hOwn6.setN (x.sold+va)).2.1
 have k7:=k6.trans (hOwn6.belowN 3 (O U (x.sold+va)))
 go_wp2_with fail
 generalize W6.setCell ⟨gO,3,none⟩ (O U (x.sold+va))=W7 at hOt k7 ⊢
 have cC:=fA W2.heap.size gO _ _ ⟨x.t,x.o,x.got,x.sold+va,x.missed⟩ st pe (-va) W7 hOt k7.size (by exact hasc) (by show x.o.length≤100000; omega) (by exact hoc) (by omega)
 refine cC.mono ?_
 rintro e W8 ⟨vo',rfl,hO8,hb8⟩
 have k8:=k7.trans hb8
 clear hb8 cC
 replace hO8:∃ vt,az W8 W2.heap.size gO vt vo' r:=⟨_,by rw [hr]; exact hO8⟩
 obtain ⟨vt,hO8⟩:=hO8
 clear hr
 clear hOt hOwn6 c0 d3 d4 d3f d4f s0 s1 s2 s3 L1d k7 k6 k5
 obtain ⟨A1,a1,A2,a2,rfl,rfl⟩:=hO8.form
 have cV:=aX (r.at A1 a1 A2 a2) gO W8 (az.at_ (y:=r) hO8)
 rw [Oc.good_at] at cV
 cases hg:r.good
 ·rw [hg] at cV
  have HN:Hid (ba x.c ⟨4,st,pe,va⟩=none):=by unfold Hid; rw [HR.out,Oc.fin,hg]; rfl
  clear hg
  go_wp2_with fail
  refine cV.mono ?_
  rintro e W9 ⟨rfl,hb9⟩
  have k9:=k8.trans (hb9.mono k8.size)
  clear hb9 cV
  have L2z:=L2.below k9 L2.lt
  have z0:=L2z.cell 0
  have z1:=L2z.cell 1
  have z2:=L2z.cell 2
  have z3:=L2z.cell 3
  have z4:=L2z.cell 4
  obtain ⟨f0,f1,f2,f3,f4⟩:=frz5 L2z
  simp only [List.getElem?_cons_zero,List.getElem?_cons_succ] at z0 z1 z2 z3 z4
  have hgr:=ab (g:=w.heap.size+1) (i:=4) (u:=O U 0) (ab (g:=w.heap.size+1) (i:=3) (u:=O U 0) (ab (g:=w.heap.size+1) (i:=2) (u:=O U 0) (ab (g:=w.heap.size+1) (i:=1) (u:=F none 0 0) (ab (g:=w.heap.size+1) (i:=0) (u:=F none 0 0) (World.grownBy.refl W9 (some (w.heap.size+1)))))))
  have bw:=b2.trans (k9.mono b2.size)
  have bz:=bw.grown hgr bw.size (by rintro _ ⟨⟩; omega)
  go_wp2
  rw [HN.out]
  refine bodyPost_ret (v:=.tuple #[.agg #[F none 0 0,F none 0 0,O U 0,O U 0,O U 0],.bool false]) (by simp [results,Tryz.results186,go_sem, *]) rfl (aB.no rfl bz)
 ·rw [hg] at cV
  have HN:Hid (ba x.c ⟨4,st,pe,va⟩=some r):=by unfold Hid; rw [HR.out,Oc.fin,hg]; rfl
  clear hg
  go_wp2_with fail
  refine cV.mono ?_
  rintro e W9 ⟨rfl,hb9⟩
  have k9:=k8.trans (hb9.mono k8.size)
  have hO9:=hO8.then hb9
  clear hb9 cV hO8
  obtain ⟨c0,c1,c2,c3,c4⟩:=cells5 hO9.lies
  have L2z:=L2.below k9 L2.lt
  have z0:=L2z.cell 0
  have z1:=L2z.cell 1
  have z2:=L2z.cell 2
  have z3:=L2z.cell 3
  have z4:=L2z.cell 4
  obtain ⟨f0,f1,f2,f3,f4⟩:=frz5 L2z
  simp only [List.getElem?_cons_zero,List.getElem?_cons_succ] at z0 z1 z2 z3 z4
  have hgr:=ab (g:=w.heap.size+1) (i:=4) (u:=O U r.missed) (ab (g:=w.heap.size+1) (i:=3) (u:=O U r.sold) (ab (g:=w.heap.size+1) (i:=2) (u:=O U r.got) (ab (g:=w.heap.size+1) (i:=1) (u:=F A2 r.o.length a2) (ab (g:=w.heap.size+1) (i:=0) (u:=F A1 r.t.length a1) (World.grownBy.refl W9 (some (w.heap.size+1)))))))
  have bw:=b2.trans (k9.mono b2.size)
  have bz:=bw.grown hgr bw.size (by rintro _ ⟨⟩; omega)
  have r8:=af (aj hO9.t L2z eE hgr) b2.size
  have r9:=af (aj hO9.o L2z ep hgr) b2.size
  have R8:=Lib.hid r8; clear r8
  have R9:=Lib.hid r9; clear r9
  clear hgr hO9
  go_wp2
  rw [HN.out]
  refine bodyPost_ret (v:=.tuple #[.agg #[F A1 r.t.length a1,F A2 r.o.length a2,O U r.got,O U r.sold,O U r.missed],.bool true]) (by simp [results,Tryz.results186,go_sem, *]) rfl ?_
  exact aB.yes rfl R8.out R9.out bz
set_option maxRecDepth 100000 in
set_option maxHeartbeats 1500000 in
theorem sk (x:aL) (g:Nat) (st pe va:Int) (w:World) (h:bX w w.heap.size g x) (G:bo x) (i:Nat) (hi:i < x.t.length) (hI:au x.t st=i) (hpe:1≤pe∧pe≤999) (hva:1≤va∧va≤9999) (hn1:aJ st pe x.o ≠ 0) :
  Calls Tryz.prog 186 #[.pointer (some ⟨g,0,none⟩),.agg #[O U 3,O U st,O U pe,O U va]] w (aB w (ba x.c ⟨3,st,pe,va⟩)):=by
 obtain ⟨tr,htr⟩ : ∃ tr,x.c.t[i]=tr:=⟨_,rfl⟩
 obtain ⟨r,hr⟩ : ∃ r:Oc,r=⟨x.t.set i ⟨tr.k,tr.c+va⟩,dX st pe (-va) x.o,x.got,x.sold,x.missed⟩:=⟨_,rfl⟩
 have HR:Hid (ba x.c ⟨3,st,pe,va⟩=Oc.fin r):=by
  unfold Hid ba
  rw [if_neg (by simp)]
  rw [if_neg (by show ¬ ¬ 0≤au x.t st; rw [hI]; omega)]
  rw [if_neg (by simp)]
  rw [if_neg (by show ¬ (aJ st pe x.o=0∧0 < pe); omega)]
  rw [if_pos rfl]
  rw [show ai x.c.t st (va)=x.t.set i ⟨tr.k,tr.c+va⟩ from by show ai x.t st _=_; rw [gw hI hi,show x.t[i]=tr from htr]]
  rw [hr]
  rfl
 have hNb:=G.at_bd st pe
 have hasc:=G.asc
 have hoc:=G.oc
 have hz0:(0:Int)≤(i:Int):=by omega
 have htb:=(ap.bounds (G.tall i hi)).2
 rw [show x.t[i]=tr from htr] at htb
 obtain ⟨htb1,htb2⟩:=htb
 obtain ⟨hpe1,hpe2⟩:=hpe
 obtain ⟨hva1,hva2⟩:=hva
 have L1:=(ah.new w 112 #[O U 3,O U st,O U pe,O U va]).alloc (.cells #[F none 0 0,F none 0 0,O U 0,O U 0,O U 0] 40)
 have L2:=ah.new1 w (.cells #[O U 3,O U st,O U pe,O U va] 112) 40 #[F none 0 0,F none 0 0,O U 0,O U 0,O U 0]
 have b1:=(Below.refl w.heap.size w).alloc (Nat.le_refl _) (.cells #[O U 3,O U st,O U pe,O U va] 112)
 have b2:=b1.alloc b1.size (.cells #[F none 0 0,F none 0 0,O U 0,O U 0,O U 0] 40)
 have hA:=h.then b2 b2.size
 have tl:=G.tl
 have ol:=G.ol
 clear b1
 go_enter Tryz.func186,Tryz.ntmps186
 go_wp2_with fail
 generalize ((w.alloc (.cells #[O U 3,O U st,O U pe,O U va] 112)).alloc (.cells #[F none 0 0,F none 0 0,O U 0,O U 0,O U 0] 40))=W2 at L1 L2 b2 hA ⊢
 refine (bT x g W2 hA (by omega) (by omega)).mono ?_
 rintro e W3 ⟨TA,tc,OA,oc,rfl,hT,hO,k3⟩
 obtain ⟨gT,cT,_,hvt,_,_,_⟩:=bH hT (by omega)
 injection hvt with e1 e2 e3
 subst e1; subst e3
 have hal:=(Below.refl W3.heap.size W3).alloc (Nat.le_refl _) (.cells #[F (some ⟨gT,0,none⟩) x.t.length tc,F OA x.o.length oc,O U x.got,O U x.sold,O U x.missed] 40)
 have hOwn:az (W3.alloc (.cells #[F (some ⟨gT,0,none⟩) x.t.length tc,F OA x.o.length oc,O U x.got,O U x.sold,O U x.missed] 40)) W2.heap.size W3.heap.size _ _ x.c:=⟨ah.new W3 40 #[F (some ⟨gT,0,none⟩) x.t.length tc,F OA x.o.length oc,O U x.got,O U x.sold,O U x.missed],k3.size,ac hT hal,ac hO hal⟩
 have k4:=k3.trans (hal.mono k3.size)
 have s0:=(L1.below k4 L1.lt).cell 0
 have s1:=(L1.below k4 L1.lt).cell 1
 simp only [List.getElem?_cons_zero,List.getElem?_cons_succ] at s0 s1
 have hgO:w.heap.size+1 < W3.heap.size:=Nat.lt_of_lt_of_le L2.lt k3.size
 clear hT hO k3
 go_wp2_with fail
 clear s0 s1 hal
 generalize W3.alloc (.cells #[F (some ⟨gT,0,none⟩) x.t.length tc,F OA x.o.length oc,O U x.got,O U x.sold,O U x.missed] 40)=W4 at hOwn k4 ⊢
 generalize W3.heap.size=gO at hOwn hgO ⊢
 refine (bc (x.c.at (some ⟨gT,0,none⟩) tc OA oc) gO st W4 (az.at_ (y:=x.c) hOwn)).mono ?_
 rintro e W5 ⟨rfl,hb5⟩
 have hOwn5:=hOwn.then hb5
 have k5:=k4.trans (hb5.mono k4.size)
 rw [show au (x.c.at (some ⟨gT,0,none⟩) tc OA oc).t st=au x.t st from rfl,hI]
 have L1c:=L1.below k5 L1.lt
 have hA5:=hA.then k5 k5.size
 have hmf:∀ (fn:Fn) (first cap:Array Value) (w:World),(Instr.makeFunc fn first cap).run Tryz.prog w=.ok (.func fn first cap) w:=fun _ _ _ _=>rfl
 go_wp2_with fail
 refine (cZ (B:=0) L1c hA5 G (Nat.zero_le _)).mono ?_
 rintro e W6 ⟨rfl,hb6⟩
 have hOwn6:=hOwn5.then hb6
 have k6:=k5.trans (hb6.mono k5.size)
 have L1d:=L1.below k6 L1.lt
 obtain ⟨s0,s1,s2,s3⟩:=cells4 L1d
 clear L1c hA5 hOwn5 hOwn hb5 hb6 k4
 generalize aJ st pe x.o=N at *
 obtain ⟨hNb1,hNb2⟩:=hNb
 have c0:=hOwn6.lies.cell 0
 simp only [List.getElem?_cons_zero] at c0
 have hn0:(N == 0)=false:=by simp; omega
 go_wp2
 obtain ⟨hOt,kt,ct,cf⟩:=az.setT' (y:=x.c) (hOwn6.then (Below.refl _ _).drew) hi tr htr (tr.c+va)
 have kd:=k6.drew
 have L1e:=L1.below kd L1.lt
 have u1:=L1e.cell 1
 have u2:=L1e.cell 2
 have u3:=L1e.cell 3
 simp only [List.getElem?_cons_zero,List.getElem?_cons_succ] at u1 u2 u3
 go_still_tail 9,(by kernel_rfl)
 change wpList _ _ _ _ _ W6.drew
 generalize W6.drew=Wd at hOt kt ct cf kd L1e u1 u2 u3 ⊢
 have k7:=kd.trans kt
 have hneT : ¬ gT=w.heap.size:=fun e=>by have:=(hOt.t.lt gT rfl).1; have:=L1.lt; omega
 have hneT' : ¬ w.heap.size=gT:=fun e=>hneT e.symm
 go_wp2_with fail
 generalize Wd.setCell ⟨gT,i * 2+1,none⟩ (O U (tr.c+va))=W7 at hOt k7 ⊢
 have cC:=fA W2.heap.size gO _ _ ⟨x.t.set i ⟨tr.k,tr.c+va⟩,x.o,x.got,x.sold,x.missed⟩ st pe (-va) W7 hOt k7.size (by exact hasc) (by show x.o.length≤100000; omega) (by exact hoc) (by omega)
 refine cC.mono ?_
 rintro e W8 ⟨vo',rfl,hO8,hb8⟩
 have k8:=k7.trans hb8
 clear hb8 cC
 replace hO8:∃ vt,az W8 W2.heap.size gO vt vo' r:=⟨_,by rw [hr]; exact hO8⟩
 obtain ⟨vt,hO8⟩:=hO8
 clear hr
 clear hOt hOwn6 c0 ct cf u1 u2 u3 s0 s1 s2 s3 L1d L1e kt kd k7 k6 k5
 obtain ⟨A1,a1,A2,a2,rfl,rfl⟩:=hO8.form
 have cV:=aX (r.at A1 a1 A2 a2) gO W8 (az.at_ (y:=r) hO8)
 rw [Oc.good_at] at cV
 cases hg:r.good
 ·rw [hg] at cV
  have HN:Hid (ba x.c ⟨3,st,pe,va⟩=none):=by unfold Hid; rw [HR.out,Oc.fin,hg]; rfl
  clear hg
  go_wp2_with fail
  refine cV.mono ?_
  rintro e W9 ⟨rfl,hb9⟩
  have k9:=k8.trans (hb9.mono k8.size)
  clear hb9 cV
  have L2z:=L2.below k9 L2.lt
  have z0:=L2z.cell 0
  have z1:=L2z.cell 1
  have z2:=L2z.cell 2
  have z3:=L2z.cell 3
  have z4:=L2z.cell 4
  obtain ⟨f0,f1,f2,f3,f4⟩:=frz5 L2z
  simp only [List.getElem?_cons_zero,List.getElem?_cons_succ] at z0 z1 z2 z3 z4
  have hgr:=ab (g:=w.heap.size+1) (i:=4) (u:=O U 0) (ab (g:=w.heap.size+1) (i:=3) (u:=O U 0) (ab (g:=w.heap.size+1) (i:=2) (u:=O U 0) (ab (g:=w.heap.size+1) (i:=1) (u:=F none 0 0) (ab (g:=w.heap.size+1) (i:=0) (u:=F none 0 0) (World.grownBy.refl W9 (some (w.heap.size+1)))))))
  have bw:=b2.trans (k9.mono b2.size)
  have bz:=bw.grown hgr bw.size (by rintro _ ⟨⟩; omega)
  go_wp2
  rw [HN.out]
  refine bodyPost_ret (v:=.tuple #[.agg #[F none 0 0,F none 0 0,O U 0,O U 0,O U 0],.bool false]) (by simp [results,Tryz.results186,go_sem, *]) rfl (aB.no rfl bz)
 ·rw [hg] at cV
  have HN:Hid (ba x.c ⟨3,st,pe,va⟩=some r):=by unfold Hid; rw [HR.out,Oc.fin,hg]; rfl
  clear hg
  go_wp2_with fail
  refine cV.mono ?_
  rintro e W9 ⟨rfl,hb9⟩
  have k9:=k8.trans (hb9.mono k8.size)
  have hO9:=hO8.then hb9
  clear hb9 cV hO8
  obtain ⟨c0,c1,c2,c3,c4⟩:=cells5 hO9.lies
  have L2z:=L2.below k9 L2.lt
  have z0:=L2z.cell 0
  have z1:=L2z.cell 1
  have z2:=L2z.cell 2
  have z3:=L2z.cell 3
  have z4:=L2z.cell 4
  obtain ⟨f0,f1,f2,f3,f4⟩:=frz5 L2z
  simp only [List.getElem?_cons_zero,List.getElem?_cons_succ] at z0 z1 z2 z3 z4
  have hgr:=ab (g:=w.heap.size+1) (i:=4) (u:=O U r.missed) (ab (g:=w.heap.size+1) (i:=3) (u:=O U r.sold) (ab (g:=w.heap.size+1) (i:=2) (u:=O U r.got) (ab (g:=w.heap.size+1) (i:=1) (u:=F A2 r.o.length a2) (ab (g:=w.heap.size+1) (i:=0) (u:=F A1 r.t.length a1) (World.grownBy.refl W9 (some (w.heap.size+1)))))))
  have bw:=b2.trans (k9.mono b2.size)
  have bz:=bw.grown hgr bw.size (by rintro _ ⟨⟩; omega)
  have r8:=af (aj hO9.t L2z eE hgr) b2.size
  have r9:=af (aj hO9.o L2z ep hgr) b2.size
  have R8:=Lib.hid r8; clear r8
  have R9:=Lib.hid r9; clear r9
  clear hgr hO9
  go_wp2
  rw [HN.out]
  refine bodyPost_ret (v:=.tuple #[.agg #[F A1 r.t.length a1,F A2 r.o.length a2,O U r.got,O U r.sold,O U r.missed],.bool true]) (by simp [results,Tryz.results186,go_sem, *]) rfl ?_
  exact aB.yes rfl R8.out R9.out bz
set_option maxRecDepth 100000 in
set_option maxHeartbeats 1500000 in
theorem sl (x:aL) (g:Nat) (st pe va:Int) (w:World) (h:bX w w.heap.size g x) (G:bo x) (i:Nat) (hi:i < x.t.length) (hI:au x.t st=i) (hpe:1≤pe∧pe≤999) (hva:1≤va∧va≤9999) :
  Calls Tryz.prog 186 #[.pointer (some ⟨g,0,none⟩),.agg #[O U 2,O U st,O U pe,O U va]] w (aB w (ba x.c ⟨2,st,pe,va⟩)):=by
 obtain ⟨tr,htr⟩ : ∃ tr,x.c.t[i]=tr:=⟨_,rfl⟩
 obtain ⟨r,hr⟩ : ∃ r:Oc,r=⟨x.t.set i ⟨tr.k,tr.c - va⟩,dX st pe va x.o,x.got,x.sold,x.missed⟩:=⟨_,rfl⟩
 have HR:Hid (ba x.c ⟨2,st,pe,va⟩=Oc.fin r):=by
  unfold Hid ba
  rw [if_neg (by simp),if_neg (by show ¬ ¬ 0≤au x.t st; rw [hI]; omega),if_pos rfl,hr]
  show Oc.fin { x.c with t:=ai x.t st (-va),o:=dX st pe va x.o }=_
  rw [gw hI hi,show x.t[i]=tr from htr,← Int.sub_eq_add_neg]
  rfl
 have hNb:=G.at_bd st pe
 have hasc:=G.asc
 have hoc:=G.oc
 have htb:=(ap.bounds (G.tall i hi)).2
 rw [show x.t[i]=tr from htr] at htb
 obtain ⟨hpe1,hpe2⟩:=hpe
 obtain ⟨hva1,hva2⟩:=hva
 obtain ⟨htb1,htb2⟩:=htb
 have hz0:(0:Int)≤(i:Int):=by omega
 have L1:=(ah.new w 112 #[O U 2,O U st,O U pe,O U va]).alloc (.cells #[F none 0 0,F none 0 0,O U 0,O U 0,O U 0] 40)
 have L2:=ah.new1 w (.cells #[O U 2,O U st,O U pe,O U va] 112) 40 #[F none 0 0,F none 0 0,O U 0,O U 0,O U 0]
 have b1:=(Below.refl w.heap.size w).alloc (Nat.le_refl _) (.cells #[O U 2,O U st,O U pe,O U va] 112)
 have b2:=b1.alloc b1.size (.cells #[F none 0 0,F none 0 0,O U 0,O U 0,O U 0] 40)
 have hA:=h.then b2 b2.size
 have tl:=G.tl
 have ol:=G.ol
 clear b1
 go_enter Tryz.func186,Tryz.ntmps186
 go_wp2_with fail
 generalize ((w.alloc (.cells #[O U 2,O U st,O U pe,O U va] 112)).alloc (.cells #[F none 0 0,F none 0 0,O U 0,O U 0,O U 0] 40))=W2 at L1 L2 b2 hA ⊢
 refine (bT x g W2 hA (by omega) (by omega)).mono ?_
 rintro e W3 ⟨TA,tc,OA,oc,rfl,hT,hO,k3⟩
 obtain ⟨gT,cT,_,hvt,_,_,_⟩:=bH hT (by omega)
 injection hvt with e1 e2 e3
 subst e1; subst e3
 have hal:=(Below.refl W3.heap.size W3).alloc (Nat.le_refl _) (.cells #[F (some ⟨gT,0,none⟩) x.t.length tc,F OA x.o.length oc,O U x.got,O U x.sold,O U x.missed] 40)
 have hOwn:az (W3.alloc (.cells #[F (some ⟨gT,0,none⟩) x.t.length tc,F OA x.o.length oc,O U x.got,O U x.sold,O U x.missed] 40)) W2.heap.size W3.heap.size _ _ x.c:=⟨ah.new W3 40 #[F (some ⟨gT,0,none⟩) x.t.length tc,F OA x.o.length oc,O U x.got,O U x.sold,O U x.missed],k3.size,ac hT hal,ac hO hal⟩
 have k4:=k3.trans (hal.mono k3.size)
 have s0:=(L1.below k4 L1.lt).cell 0
 have s1:=(L1.below k4 L1.lt).cell 1
 simp only [List.getElem?_cons_zero,List.getElem?_cons_succ] at s0 s1
 have hgO:w.heap.size+1 < W3.heap.size:=Nat.lt_of_lt_of_le L2.lt k3.size
 clear hT hO k3
 go_wp2_with fail
 clear s0 s1 hal
 generalize W3.alloc (.cells #[F (some ⟨gT,0,none⟩) x.t.length tc,F OA x.o.length oc,O U x.got,O U x.sold,O U x.missed] 40)=W4 at hOwn k4 ⊢
 generalize W3.heap.size=gO at hOwn hgO ⊢
 refine (bc (x.c.at (some ⟨gT,0,none⟩) tc OA oc) gO st W4 (az.at_ (y:=x.c) hOwn)).mono ?_
 rintro e W5 ⟨rfl,hb5⟩
 have hOwn5:=hOwn.then hb5
 have k5:=k4.trans (hb5.mono k4.size)
 rw [show au (x.c.at (some ⟨gT,0,none⟩) tc OA oc).t st=au x.t st from rfl,hI]
 have L1c:=L1.below k5 L1.lt
 have hA5:=hA.then k5 k5.size
 have hmf:∀ (fn:Fn) (first cap:Array Value) (w:World),(Instr.makeFunc fn first cap).run Tryz.prog w=.ok (.func fn first cap) w:=fun _ _ _ _=>rfl
 go_wp2_with fail
 refine (cZ (B:=0) L1c hA5 G (Nat.zero_le _)).mono ?_
 rintro e W6 ⟨rfl,hb6⟩
 have hOwn6:=hOwn5.then hb6
 have k6:=k5.trans (hb6.mono k5.size)
 have L1d:=L1.below k6 L1.lt
 obtain ⟨s0,s1,s2,s3⟩:=cells4 L1d
 clear L1c hA5 hOwn5 hOwn hb5 hb6 k4
 generalize aJ st pe x.o=N at hNb ⊢
 obtain ⟨hNb1,hNb2⟩:=hNb
 have c0:=hOwn6.lies.cell 0
 simp only [List.getElem?_cons_zero,List.getElem?_cons_succ] at c0
 obtain ⟨v,hv⟩ : ∃ v,(N == 0)=v:=⟨_,rfl⟩
 cases v
 all_goals
  go_wp2
  obtain ⟨hOt,kt,ct,cf⟩:=az.setT' (y:=x.c) (hOwn6.then (Below.refl _ _).drew) hi tr htr (tr.c - va)
  have kd:=k6.drew
  have L1e:=L1.below kd L1.lt
  have u1:=L1e.cell 1
  have u2:=L1e.cell 2
  have u3:=L1e.cell 3
  simp only [List.getElem?_cons_zero,List.getElem?_cons_succ] at u1 u2 u3
  go_still_tail 9,(by kernel_rfl)
  change wpList _ _ _ _ _ W6.drew
  generalize W6.drew=Wd at hOt kt ct cf kd L1e u1 u2 u3 ⊢
  have k7:=kd.trans kt
  have hneT : ¬ gT=w.heap.size:=fun e=>by have:=(hOt.t.lt gT rfl).1; have:=L1.lt; omega
  have hneT' : ¬ w.heap.size=gT:=fun e=>hneT e.symm
  go_wp2_with fail
  generalize Wd.setCell ⟨gT,i * 2+1,none⟩ (O U (tr.c - va))=W7 at hOt k7 ⊢
  have cC:=fA W2.heap.size gO _ _ ⟨x.t.set i ⟨tr.k,tr.c - va⟩,x.o,x.got,x.sold,x.missed⟩ st pe (va) W7 hOt k7.size (by exact hasc) (by show x.o.length≤100000; omega) (by exact hoc) (by omega)
  refine cC.mono ?_
  rintro e W8 ⟨vo',rfl,hO8,hb8⟩
  have k8:=k7.trans hb8
  clear hb8 cC
  replace hO8:∃ vt,az W8 W2.heap.size gO vt vo' r:=⟨_,by rw [hr]; exact hO8⟩
  obtain ⟨vt,hO8⟩:=hO8
  clear hr
  clear hOt hOwn6 c0 ct cf u1 u2 u3 s0 s1 s2 s3 L1d L1e kt kd k7 k6 k5
  obtain ⟨A1,a1,A2,a2,rfl,rfl⟩:=hO8.form
  have cV:=aX (r.at A1 a1 A2 a2) gO W8 (az.at_ (y:=r) hO8)
  rw [Oc.good_at] at cV
  cases hg:r.good
  ·rw [hg] at cV
   have HN:Hid (ba x.c ⟨2,st,pe,va⟩=none):=by unfold Hid; rw [HR.out,Oc.fin,hg]; rfl
   clear hg
   go_wp2_with fail
   refine cV.mono ?_
   rintro e W9 ⟨rfl,hb9⟩
   have k9:=k8.trans (hb9.mono k8.size)
   clear hb9 cV
   have L2z:=L2.below k9 L2.lt
   have z0:=L2z.cell 0
   have z1:=L2z.cell 1
   have z2:=L2z.cell 2
   have z3:=L2z.cell 3
   have z4:=L2z.cell 4
   obtain ⟨f0,f1,f2,f3,f4⟩:=frz5 L2z
   simp only [List.getElem?_cons_zero,List.getElem?_cons_succ] at z0 z1 z2 z3 z4
   have hgr:=ab (g:=w.heap.size+1) (i:=4) (u:=O U 0) (ab (g:=w.heap.size+1) (i:=3) (u:=O U 0) (ab (g:=w.heap.size+1) (i:=2) (u:=O U 0) (ab (g:=w.heap.size+1) (i:=1) (u:=F none 0 0) (ab (g:=w.heap.size+1) (i:=0) (u:=F none 0 0) (World.grownBy.refl W9 (some (w.heap.size+1)))))))
   have bw:=b2.trans (k9.mono b2.size)
   have bz:=bw.grown hgr bw.size (by rintro _ ⟨⟩; omega)
   go_wp2
   rw [HN.out]
   refine bodyPost_ret (v:=.tuple #[.agg #[F none 0 0,F none 0 0,O U 0,O U 0,O U 0],.bool false]) (by simp [results,Tryz.results186,go_sem, *]) rfl (aB.no rfl bz)
  ·rw [hg] at cV
   have HN:Hid (ba x.c ⟨2,st,pe,va⟩=some r):=by unfold Hid; rw [HR.out,Oc.fin,hg]; rfl
   clear hg
   go_wp2_with fail
   refine cV.mono ?_
   rintro e W9 ⟨rfl,hb9⟩
   have k9:=k8.trans (hb9.mono k8.size)
   have hO9:=hO8.then hb9
   clear hb9 cV hO8
   obtain ⟨c0,c1,c2,c3,c4⟩:=cells5 hO9.lies
   have L2z:=L2.below k9 L2.lt
   have z0:=L2z.cell 0
   have z1:=L2z.cell 1
   have z2:=L2z.cell 2
   have z3:=L2z.cell 3
   have z4:=L2z.cell 4
   obtain ⟨f0,f1,f2,f3,f4⟩:=frz5 L2z
   simp only [List.getElem?_cons_zero,List.getElem?_cons_succ] at z0 z1 z2 z3 z4
   have hgr:=ab (g:=w.heap.size+1) (i:=4) (u:=O U r.missed) (ab (g:=w.heap.size+1) (i:=3) (u:=O U r.sold) (ab (g:=w.heap.size+1) (i:=2) (u:=O U r.got) (ab (g:=w.heap.size+1) (i:=1) (u:=F A2 r.o.length a2) (ab (g:=w.heap.size+1) (i:=0) (u:=F A1 r.t.length a1) (World.grownBy.refl W9 (some (w.heap.size+1)))))))
   have bw:=b2.trans (k9.mono b2.size)
   have bz:=bw.grown hgr bw.size (by rintro _ ⟨⟩; omega)
   have r8:=af (aj hO9.t L2z eE hgr) b2.size
   have r9:=af (aj hO9.o L2z ep hgr) b2.size
   have R8:=Lib.hid r8; clear r8
   have R9:=Lib.hid r9; clear r9
   clear hgr hO9
   go_wp2
   rw [HN.out]
   refine bodyPost_ret (v:=.tuple #[.agg #[F A1 r.t.length a1,F A2 r.o.length a2,O U r.got,O U r.sold,O U r.missed],.bool true]) (by simp [results,Tryz.results186,go_sem, *]) rfl ?_
   exact aB.yes rfl R8.out R9.out bz
end Go.Proofs.YtoeoimhemojdeaaGreatDoor
