/- Lemmas. -/
import Derived.Lib.Join
import Derived.Deep.DeepCutAuto
import Derived.Test.YtoeoimhemojdeaaGreatDoorFc30
import Derived.Test.YtoeoimhemojdeaaGreatDoorFc32

set_option linter.unusedVariables false
set_option linter.unusedSimpArgs false
set_option maxHeartbeats 8000000
open Go.Value renaming int → O, slice → F, string → vw
open Go.IntKind renaming i64 → U
open Go.Proofs.Tryz renaming prog → vx

namespace Go.Proofs.YtoeoimhemojdeaaGreatDoor
open Go.RowKit
noncomputable def dQ:List (List UInt8)→Option (List Int)
 | []=>some []
 | t :: l=>match cW t with
  | none=>none
  | some n=>(dQ l).map (n :: ·)
theorem oP:∀ {l:List (List UInt8)} {ns:List Int},dQ l=some ns→ns.length=l.length
 | [],ns,h=>by simp only [dQ,Option.some.injEq] at h; subst h; rfl
 | t :: l,ns,h=>by
  unfold dQ at h
  cases hn:cW t with
  | none=>rw [hn] at h; cases h
  | some n =>
   rw [hn] at h
   cases hl:dQ l with
   | none=>rw [hl] at h; cases h
   | some ms =>
    rw [hl] at h
    simp only [Option.map_some,Option.some.injEq] at h
    subst h
    simp [oP hl]
noncomputable def gw (acc:List Int) (l:List (List UInt8)):Option (List Int):=(dQ l).map (acc++·)
theorem nG (acc:List Int):gw acc []=some acc:=by simp [gw,dQ]
theorem mA (l:List (List UInt8)):gw [] l=dQ l:=by
 unfold gw; cases dQ l <;> simp
theorem mB {acc:List Int} {l:List (List UInt8)} {k:Nat} (h:k < l.length) (hn:cW l[k]=none):gw acc (l.drop k)=none:=by
 rw [List.drop_eq_getElem_cons h]; unfold gw dQ; rw [hn]; rfl
theorem mD {acc:List Int} {l:List (List UInt8)} {k:Nat} {n:Int} (h:k < l.length) (hn:cW l[k]=some n):gw acc (l.drop k)=gw (acc++[n]) (l.drop (k+1)):=by
 rw [List.drop_eq_getElem_cons h]; unfold gw; rw [dQ,hn]
 cases dQ (l.drop (k+1)) <;> simp
def fl (l:List Int):ByteArray:=if l.length=0 then ⟨#[110,111,110,101]⟩ else ⟨(Lib.join (l.map Lib.itoa) [32]).toArray⟩
def dn (x:aO) (s:ByteArray):Option ByteArray :=
 if s=⟨#[105,110]⟩ then some (bJ (cr x.t))
 else if s=⟨#[111,117,116]⟩ then some (bJ (aW de x.o))
 else if s=⟨#[103,111,116]⟩ then some (bJ x.gt)
 else if s=⟨#[115,111,108,100]⟩ then some (bJ x.sd)
 else if s=⟨#[109,105,115,115,101,100]⟩ then some (bJ x.ms)
 else if s=⟨#[98,117,115,105,101,115,116]⟩ then (if dd x then some (bJ (dF x)) else none)
 else none
def kH (x:aO) (n:Int):Option ByteArray:=if an x && cc n 1 999 then some (fl (br (an x && cc n 1 999) (aT (fun r:ae=>decide (r.p=n)) ae.k x.o))) else none
def il (x:aO) (n:Int):Option ByteArray:=if an x && aS x.t n then some (fl (br (an x && aS x.t n) (aT (fun r:ae=>decide (r.k=n)) ae.p x.o))) else none
def jU (x:aO) (n:Int):Option ByteArray:=if an x && aS x.t n then some (eE x n) else none
def gH (x:aO) (s:ByteArray) (n:Int):Option ByteArray :=
 if s=⟨#[97,116]⟩ then kH x n
 else if s=⟨#[119,105,116,104]⟩ then il x n
 else if s=⟨#[116,101,120,116]⟩ then jU x n
 else none
def im (z:aO) (s:cU):ByteArray:=if s.kind=1 then bJ (cr z.t) else if s.kind=4 then bJ z.sd else if s.kind=5 then bJ z.ms else eE z s.stamp
def cH (s:ByteArray) (a b:Int):Option cU :=
 if s=⟨#[103,101,116]⟩ then some ⟨1,a,0,b⟩
 else if s=⟨#[109,105,115,115]⟩ then some ⟨5,a,b,0⟩
 else none
def dr (s:ByteArray) (a b c:Int):Option cU :=
 if s=⟨#[115,104,111,119]⟩ then some ⟨2,a,b,c⟩
 else if s=⟨#[98,97,99,107]⟩ then some ⟨3,a,b,c⟩
 else if s=⟨#[115,101,108,108]⟩ then some ⟨4,a,b,c⟩
 else if s=⟨#[109,111,118,101]⟩ then some ⟨6,a,b,c⟩
 else none
def Oc.off (y:Oc):aO:=y.at none 0 none 0
def bW (x:aO) (s:cU):Option (Oc × ByteArray):=(fY x.c s).map fun z=>(z,im z.off s)
noncomputable def bD (x:aO) (w0:ByteArray):List Int→Option (Oc × ByteArray)
 | []=>(dn x w0).map (x.c,·)
 | [n]=>(gH x w0 n).map (x.c,·)
 | [a,b]=>(cH w0 a b).bind (bW x)
 | [a,b,c]=>(dr w0 a b c).bind (bW x)
 | _=>none
def wd (l:List UInt8) (j:Nat):ByteArray:=⟨((aK 32 l).getD j []).toArray⟩
noncomputable def iL (x:aO) (line:ByteArray):Option (Oc × ByteArray):=(dQ ((aK 32 (bl line)).drop 1)).bind (bD x (wd (bl line) 0))
noncomputable def iY (x:aO) (line:ByteArray):ByteArray:=match iL x line with
 | none=>⟨#[63]⟩
 | some r=>if 200 < r.2.size then ⟨#[108,111,110,103]⟩ else r.2
noncomputable def qz (x:aO) (line:ByteArray):Oc:=match iL x line with
 | none=>x.c
 | some r=>r.1
noncomputable def f8 (x:aO) (l:Lg) (line:ByteArray):ByteArray :=
 if dV x l then (if dq.ok ⟨line,⟨#[]⟩⟩ then (if l.n=60 then ⟨#[102,117,108,108]⟩ else iY x line) else ⟨#[98,97,100]⟩) else ⟨#[110,111]⟩
noncomputable def fq (x:aO) (l:Lg) (line:ByteArray):Oc :=
 if dV x l then (if dq.ok ⟨line,⟨#[]⟩⟩ then (if l.n=60 then x.c else qz x line) else x.c) else x.c
noncomputable def fL (x:aO) (l:Lg) (line:ByteArray):Lg :=
 if dV x l then (if dq.ok ⟨line,⟨#[]⟩⟩ then (if l.n=60 then l else cp l ⟨line,iY x line⟩) else l) else l
theorem uY {l:List UInt8} (h:(aK 32 l).length=1):wd l 0=⟨l.toArray⟩:=by
 obtain ⟨ps,h1,h2⟩:=gp 32 l
 have hp:ps = []:=by rw [h1] at h; simpa using h
 have hf:=h2.1 hp
 unfold wd
 rw [jn hf]; rfl
theorem jr (ts:List aq) (kd n:Int):aS (aj ts kd n) kd=true:=by
 unfold aS aj
 rw [List.any_eq_true]
 split
 ·rename_i hx
  obtain ⟨i,hi⟩:=gu hx
  obtain ⟨h1,h2⟩:=gW hi
  have e:(ax ts kd).toNat=i:=oM
  rw [e]
  refine ⟨_,List.mem_of_getElem? (i:=i) (by rw [List.getElem?_set_self h1]), ?_⟩
  rw [List.getD_eq_getElem?_getD,List.getElem?_eq_getElem h1]
  exact jD h2
 ·exact ⟨⟨kd,n⟩,sP,jD rfl⟩
theorem kI {r r' : Oc} (h:Oc.fin r=some r'):r'=r:=by
 unfold Oc.fin at h
 split at h
 ·injection h with h; exact h.symm
 ·cases h
theorem rD {y r:Oc} {s:cU} (h:bf y s=some r):aS r.t s.stamp=true:=by
 have key : ¬ ¬ 0≤ax y.t s.stamp→aS y.t s.stamp=true:=fun h=>by rw [← dL]; exact jD oM
 unfold bf at h
 split at h
 ·rw [kI h]; exact jr _ _ _
 split at h
 ·cases h
 rename_i hT
 split at h
 ·rw [kI h]; exact jr _ _ _
 split at h
 ·cases h
 split at h
 ·rw [kI h]; exact jr _ _ _
 split at h
 ·split at h
  ·rw [kI h]; exact jr _ _ _
  ·rw [kI h]; exact key hT
 split at h
 ·rw [kI h]; exact key hT
 ·rw [kI h]; exact key hT
theorem fz {y r:Oc} {s:cU} (h:fY y s=some r):r.good=true∧aS r.t s.stamp=true:=by
 unfold fY at h
 split at h
 ·exact ⟨kC h,rD h⟩
 ·cases h
theorem bH.inB {x:aO} (G:bH x):0≤cr x.t∧cr x.t≤1000000:=by
 have h1:=jX x.t 0 G.tall
 have h2:=G.tl
 change 0≤cr x.t∧cr x.t≤_ at h1
 omega
theorem bH.outB {x:aO} (G:bH x) (f:ae→Bool):0≤aW f x.o∧aW f x.o≤1000000:=by
 have h1:=fC f x.t x.o 0 G.oall
 have h2:=G.ol
 change 0≤aW f x.o∧aW f x.o≤_ at h1
 omega
theorem um {x:aO} : 0≤dF x∧dF x≤1000000:=by
 by_cases h:dd x=true
 ·have:=(ul h).1
  rw [Bool.and_eq_true] at this
  have:=bQ.1 this.2
  omega
 ·unfold dF; rw [if_neg h]; omega
theorem bT {s:ByteArray} {l:List UInt8} (h : ¬ s=⟨l.toArray⟩):(s.toList == l)=false:=by
 refine beq_false_of_ne fun e=>h (dW ?_)
 rw [← e,ByteArray.toList_eq]; rfl
def cJ:ByteArray:=⟨#[63]⟩
theorem gB (n:Int) (ok:Bool) (w:World) (h:ok=true→0≤n∧n≤1000000000) :
  Calls vx 137 #[O U n,.bool ok] w fun e w'=>e=.returned (vw (if ok then bJ n else cJ))∧Below w.heap.size w w':=by
 cases ok
 ·go_enter Tryz.func137,Tryz.ntmps137
  go_wp2
  go_ret
  exact ⟨rfl,Below.refl _ _⟩
 ·have HN:=fun W=>cn n W (h rfl).1 (h rfl).2
  go_enter Tryz.func137,Tryz.ntmps137
  go_wp2_with fail
  refine (HN _).mono ?_
  rintro e w1 ⟨rfl,hb⟩
  go_wp2
  go_ret
  exact ⟨rfl,hb⟩
theorem mE (x:aO) (kd:Int) (w:World) (h:aP w w.heap.size x) :
  Calls vx 143 #[x.val,O U kd] w fun e w'=>e=.returned (vw ((jU x kd).getD cJ))∧Below w.heap.size w w':=by
 have b0:=bZ w (.cells #[F x.TA x.t.length x.tc,F x.OA x.o.length x.oc,O U x.gt,O U x.sd,O U x.ms] 40)
 have hc:=fun W hW=>lV x kd W hW
 have HT:Hid ((jU x kd).getD cJ=if (an x && aS x.t kd)=true then eE x kd else cJ):=by unfold Hid jU; split <;> rfl
 obtain ⟨ok,vF⟩ : ∃ b,(an x && aS x.t kd)=b:=⟨_,rfl⟩
 obtain ⟨tx,Ji⟩ : ∃ b,eE x kd=b:=⟨_,rfl⟩
 rw [vF,Ji] at hc HT
 clear vF Ji
 cases ok
 all_goals
  go_enter Tryz.func143,Tryz.ntmps143
  go_wp2_with fail
  refine (hc _ (h.up b0 nR)).mono ?_
  rintro e w1 ⟨rfl,hb⟩
  go_wp2
  go_ret
  exact ⟨by rw [HT.out]; rfl,av b0 hb⟩
def iZ (l:List Int):List UInt8:=Lib.join (l.map Lib.itoa) [32]
theorem sY (n:Int):iZ [n]=Lib.itoa n:=by simp [iZ,Lib.join_cons,Lib.joinTail]
theorem rE {l:List Int} {k:Nat} (h:k < l.length) (hk:0 < k):iZ (l.take (k+1))=iZ (l.take k)++[32]++Lib.itoa l[k]:=by
 have vJ:l.take k ≠ []:=by
  intro e
  have h3:(l.take k).length=k:=by rw [List.length_take]; omega
  rw [e,List.length_nil] at h3; omega
 obtain ⟨a,t,ht⟩:=List.exists_cons_of_ne_nil vJ
 rw [List.take_succ_eq_append_getElem h,ht]
 unfold iZ
 simp [Lib.join_cons,Lib.joinTail]
theorem rF {l:List Int} (h:∀ n ∈ l,0≤n∧n≤1000000000):(iZ l).length≤l.length * 101:=by
 have h1:∀ (m:List Int),(∀ n ∈ m,0≤n∧n≤1000000000)→(Lib.joinTail [32] (m.map Lib.itoa)).length≤m.length * 101:=by
  intro m
  induction m with
  | nil=>intro _; simp [Lib.joinTail]
  | cons a m ih =>
   intro hm
   have h2:=ih fun n hn=>hm n (List.mem_cons_of_mem _ hn)
   have h3:(⟨(Lib.itoa a).toArray⟩ : ByteArray).size≤100:=cE (hm a List.mem_cons_self).1 (hm a List.mem_cons_self).2
   have h4:(Lib.itoa a).length≤100:=by rw [← bL (Lib.itoa a),ao]; exact h3
   have e:Lib.joinTail [32] ((a :: m).map Lib.itoa) = [32]++Lib.itoa a++Lib.joinTail [32] (m.map Lib.itoa):=by simp [Lib.joinTail]
   rw [e,List.length_append,List.length_append,List.length_cons,List.length_cons,List.length_nil]; omega
 cases l with
 | nil=>simp [iZ,Lib.join_nil]
 | cons a l =>
  have h2:=h1 l fun n hn=>h n (List.mem_cons_of_mem _ hn)
  have h3:(⟨(Lib.itoa a).toArray⟩ : ByteArray).size≤100:=cE (h a List.mem_cons_self).1 (h a List.mem_cons_self).2
  have h4:(Lib.itoa a).length≤100:=by rw [← bL (Lib.itoa a),ao]; exact h3
  unfold iZ
  rw [List.map_cons,Lib.join_cons,List.length_append,List.length_cons]; omega
theorem rG {l:List Int} (h:0 < l.length):fl l=⟨(iZ l).toArray⟩:=by unfold fl; rw [if_neg oM]; rfl
theorem mF (A:Option Addr) (c:Nat) (l:List Int) (ok:Bool) (w:World) (h:iw w w.heap.size A l) (Dm:l.length≤8) (hr:∀ n ∈ l,0≤n∧n≤1000000000) :
  Calls vx 141 #[F A l.length c,.bool ok] w fun e w'=>e=.returned (vw (if ok then fl l else cJ))∧Below w.heap.size w w':=by
 have xi:=iw.ints h
 cases ok
 ·go_enter Tryz.func141,Tryz.ntmps141
  go_wp2
  go_ret
  exact ⟨rfl,Below.refl _ _⟩
 ·rcases Nat.eq_zero_or_pos l.length with h0 | h0
  ·have HL:Hid (fl l=⟨#[110,111,110,101]⟩):=by unfold Hid fl; rw [if_pos h0]
   have hz:((l.length:Int) == 0)=true:=by simp [h0]
   go_enter Tryz.func141,Tryz.ntmps141
   go_wp2
   go_ret
   exact ⟨by rw [HL.out]; rfl,Below.refl _ _⟩
  ·have hz:((l.length:Int) == 0)=false:=beq_false_of_ne oM
   have xz:(0:Int) < (l.length:Int):=oM
   have HL:=jZ (rG h0)
   obtain ⟨b,off,rfl,hb,hcell⟩:=xi h0
   have c0:∀ p:ap w.heap.size w,p.val.cell? ⟨b,off,none⟩=some (O U l[0]):=fun p=>by have:=hcell 0 h0 p; simpa using this
   have c00:w.cell? ⟨b,off,none⟩=some (O U l[0]):=c0 (ap.start _ _)
   have n0:=hr _ (List.getElem_mem h0)
   have Jj:=jZ hr; clear hr
   have CP:=jZ (fun W=>cn l[0] W n0.1 n0.2)
   have H1:Hid ((⟨(iZ (l.take 1)).toArray⟩ : ByteArray)=⟨(Lib.itoa l[0]).toArray⟩):=by
    rw [Hid]
    congr 2
    rw [List.take_succ_eq_append_getElem h0,List.take_zero,List.nil_append,sY]
   have HC:=jZ hcell; clear hcell
   obtain ⟨z,Fx⟩ : ∃ z,l[0]=z:=⟨_,rfl⟩
   rw [Fx] at c0 c00 CP H1
   clear Fx n0
   clear xi
   go_enter Tryz.func141,Tryz.ntmps141
   go_wp2_with fail
   refine (CP.out _).mono ?_
   rintro e w1 ⟨rfl,vD⟩
   obtain ⟨q1,rfl⟩ : ∃ q:ap w.heap.size w,w1=q.val:=⟨⟨w1,vD⟩,rfl⟩
   go_wp2_with fail
   go_loopw [5,6] (fun s i wr=>∃ (k:Nat),1≤k∧k≤l.length∧i=O U k∧s=vw ⟨(iZ (l.take k)).toArray⟩∧(∃ q:ap w.heap.size w,wr=q.val)) (fun _ i _=>l.length - (intOf i).toNat)
   case atStart=>exact ⟨1,Nat.le_refl _,h0,rfl,by rw [H1.out],⟨q1,rfl⟩⟩
   case round =>
    obtain ⟨k,Ba,hk,rfl,rfl,q,rfl⟩:=hrel
    by_cases vH:k < l.length
    ·have c0:=HC.out k vH
     have n0:=Jj.out _ (List.getElem_mem vH)
     have Jk:=jZ (rE vH oM)
     have wH:(iZ (l.take k)).length≤1000:=by
      have h1:=rF (l:=l.take k) (fun n hn=>Jj.out n (List.mem_of_mem_take hn))
      rw [List.length_take] at h1; omega
     obtain ⟨S,hS⟩ : ∃ S:ByteArray,S=⟨(iZ (l.take k)).toArray⟩:=⟨_,rfl⟩
     have HS:=jZ hS
     have LU:S.size≤1000:=by rw [hS]; exact wH
     rw [← hS]
     clear hS wH
     obtain ⟨z,Fx⟩ : ∃ z,l[k]=z:=⟨_,rfl⟩
     rw [Fx] at c0 n0 Jk
     clear Fx
     obtain ⟨T,hT⟩ : ∃ T:ByteArray,T=⟨(Lib.itoa z).toArray⟩:=⟨_,rfl⟩
     have LX:T.size≤100:=by rw [hT]; exact cE n0.1 n0.2
     have NUM:Hid (∀ W:World,Calls vx 71 #[O U z] W fun e w'=>e=.returned (vw T)∧Below W.heap.size W w'):=fun W=>by rw [hT]; exact cn z W n0.1 n0.2
     have HT:=jZ hT
     clear hT n0
     have e1:(⟨#[32]⟩ : ByteArray).size=1:=rfl
     have z1:(S++⟨#[32]⟩).size≤1001:=by rw [bg]; omega
     go_wp2_with fail
     refine (NUM.out _).mono ?_
     rintro e w4 ⟨rfl,vN⟩
     have hb5:Below w.heap.size w w4:=q.below.trans (vN.mono q.size)
     go_wp2
     go_roundw
     case rel=>exact ⟨k+1,oM,oM,by go_num,by
      congr 1
      refine dW ?_
      rw [Jk.out,dk,dk,HS.out,HT.out,bL,bL,lM],⟨⟨w4,hb5⟩,rfl⟩⟩
     case measure=>simp [intOf]; omega
    ·have ek:k=l.length:=oM
     subst ek
     rw [List.take_length]
     go_wp2
     go_ret
     exact ⟨by rw [HL.out]; rfl,q.below⟩
set_option maxRecDepth 100000 in
theorem qA (x:aO) (s:ByteArray) (w:World) (h:aP w w.heap.size x) (G:bH x) :
  Calls vx 86 #[x.val,vw s] w fun e w'=>e=.returned (vw ((dn x s).getD cJ))∧Below w.heap.size w w':=by
 have b0:=bZ w (.cells #[F x.TA x.t.length x.tc,F x.OA x.o.length x.oc,O U x.gt,O U x.sd,O U x.ms] 40)
 have hW:=h.up b0 nR
 have L0:=ah.new w 40 #[F x.TA x.t.length x.tc,F x.OA x.o.length x.oc,O U x.gt,O U x.sd,O U x.ms]
 have xX:an x=true:=bi.2 G
 by_cases h0:s=⟨#[105,110]⟩
 ·subst h0
  have HV:Hid ((dn x ⟨#[105,110]⟩).getD cJ=bJ (cr x.t)):=by unfold Hid dn; rw [if_pos rfl]; rfl
  have hc:=fun W hW=>iQ x W hW
  rw [xX] at hc
  simp only [tK,if_true] at hc
  have hn:=fun W=>gB (cr x.t) true W (fun _=>⟨G.inB.1,by have:=G.inB.2; omega⟩)
  go_enter Tryz.func86,Tryz.ntmps86
  go_wp2_with fail
  refine (hc _ hW).mono ?_
  rintro e w1 ⟨rfl,vD⟩
  go_wp2_with fail
  refine (hn _).mono ?_
  rintro e w2 ⟨rfl,vC⟩
  go_wp2
  go_ret
  exact ⟨by rw [HV.out]; rfl,av b0 (av vD vC)⟩
 have f0:(s.toList == [105,110])=false:=bT h0
 by_cases h1:s=⟨#[111,117,116]⟩
 ·subst h1
  have HV:Hid ((dn x ⟨#[111,117,116]⟩).getD cJ=bJ (aW de x.o)):=by unfold Hid dn; rw [if_neg dD,if_pos rfl]; rfl
  have hc:=fun W hW=>kW x W hW
  rw [xX] at hc
  simp only [tK,if_true] at hc
  have hn:=fun W=>gB (aW de x.o) true W (fun _=>⟨(G.outB de).1,by have:=(G.outB de).2; omega⟩)
  go_enter Tryz.func86,Tryz.ntmps86
  go_wp2_with fail
  refine (hc _ hW).mono ?_
  rintro e w1 ⟨rfl,vD⟩
  go_wp2_with fail
  refine (hn _).mono ?_
  rintro e w2 ⟨rfl,vC⟩
  go_wp2
  go_ret
  exact ⟨by rw [HV.out]; rfl,av b0 (av vD vC)⟩
 have f1:(s.toList == [111,117,116])=false:=bT h1
 by_cases h2:s=⟨#[103,111,116]⟩
 ·subst h2
  have HV:Hid ((dn x ⟨#[103,111,116]⟩).getD cJ=bJ x.gt):=by unfold Hid dn; rw [if_neg dD,if_neg dD,if_pos rfl]; rfl
  have hn:=fun W=>cn x.gt W G.g.1 (by have:=G.g.2; omega)
  go_enter Tryz.func86,Tryz.ntmps86
  go_wp2_with fail
  refine (hn _).mono ?_
  rintro e w2 ⟨rfl,vC⟩
  go_wp2
  go_ret
  exact ⟨by rw [HV.out]; rfl,av b0 vC⟩
 have f2:(s.toList == [103,111,116])=false:=bT h2
 by_cases h3:s=⟨#[115,111,108,100]⟩
 ·subst h3
  have HV:Hid ((dn x ⟨#[115,111,108,100]⟩).getD cJ=bJ x.sd):=by unfold Hid dn; rw [if_neg dD,if_neg dD,if_neg dD,if_pos rfl]; rfl
  have hn:=fun W=>cn x.sd W G.s.1 (by have:=G.s.2; omega)
  go_enter Tryz.func86,Tryz.ntmps86
  go_wp2_with fail
  refine (hn _).mono ?_
  rintro e w2 ⟨rfl,vC⟩
  go_wp2
  go_ret
  exact ⟨by rw [HV.out]; rfl,av b0 vC⟩
 have f3:(s.toList == [115,111,108,100])=false:=bT h3
 by_cases h4:s=⟨#[109,105,115,115,101,100]⟩
 ·subst h4
  have HV:Hid ((dn x ⟨#[109,105,115,115,101,100]⟩).getD cJ=bJ x.ms):=by unfold Hid dn; rw [if_neg dD,if_neg dD,if_neg dD,if_neg dD,if_pos rfl]; rfl
  have hn:=fun W=>cn x.ms W G.m.1 (by have:=G.m.2; omega)
  go_enter Tryz.func86,Tryz.ntmps86
  go_wp2_with fail
  refine (hn _).mono ?_
  rintro e w2 ⟨rfl,vC⟩
  go_wp2
  go_ret
  exact ⟨by rw [HV.out]; rfl,av b0 vC⟩
 have f4:(s.toList == [109,105,115,115,101,100])=false:=bT h4
 by_cases h5:s=⟨#[98,117,115,105,101,115,116]⟩
 ·subst h5
  have HV:Hid ((dn x ⟨#[98,117,115,105,101,115,116]⟩).getD cJ=if dd x then bJ (dF x) else cJ):=by unfold Hid dn; rw [if_neg dD,if_neg dD,if_neg dD,if_neg dD,if_neg dD,if_pos rfl]; split <;> rfl
  have hc:=fun W hW=>jx x W hW
  have hn:=fun W=>gB (dF x) (dd x) W (fun _=>⟨um.1,by have:=(um (x:=x)).2; omega⟩)
  obtain ⟨T,hT⟩ : ∃ T,(if dd x=true then bJ (dF x) else cJ)=T:=⟨_,rfl⟩
  rw [hT] at hn HV
  clear hT
  go_enter Tryz.func86,Tryz.ntmps86
  go_wp2_with fail
  refine (hc _ hW).mono ?_
  rintro e w1 ⟨rfl,vD⟩
  go_wp2_with fail
  refine (hn _).mono ?_
  rintro e w2 ⟨rfl,vC⟩
  go_wp2
  go_ret
  exact ⟨by rw [HV.out]; rfl,av b0 (av vD vC)⟩
 have f5:(s.toList == [98,117,115,105,101,115,116])=false:=bT h5
 have HV:Hid ((dn x s).getD cJ=cJ):=by unfold Hid dn; rw [if_neg h0,if_neg h1,if_neg h2,if_neg h3,if_neg h4,if_neg h5]; rfl
 clear h0 h1 h2 h3 h4 h5
 go_enter Tryz.func86,Tryz.ntmps86
 go_wp2
 go_ret
 exact ⟨by rw [HV.out]; rfl,b0⟩
theorem qB {x:aO} (G:bH x) (n:Int) (b:Bool):(br b (aT (fun r:ae=>decide (r.p=n)) ae.k x.o)).length≤8∧∀ m ∈ br b (aT (fun r:ae=>decide (r.p=n)) ae.k x.o),0≤m∧m≤1000000000:=by
 cases b
 ·exact ⟨by simp [br],by simp [br]⟩
 ·refine ⟨jT (lT _ _ _) G.ol,fun m hm=>?_⟩
  obtain ⟨r,hr,_,rfl⟩:=fK.1 (show m ∈ aT _ _ _ from hm)
  obtain ⟨j,hj,e⟩:=List.getElem_of_mem hr
  have h1:=ew G.tall (ae.bounds (G.oall j hj)).1
  rw [e] at h1; omega
theorem nH {x:aO} (G:bH x) (n:Int) (b:Bool):(br b (aT (fun r:ae=>decide (r.k=n)) ae.p x.o)).length≤8∧∀ m ∈ br b (aT (fun r:ae=>decide (r.k=n)) ae.p x.o),0≤m∧m≤1000000000:=by
 cases b
 ·exact ⟨by simp [br],by simp [br]⟩
 ·refine ⟨jT (lT _ _ _) G.ol,fun m hm=>?_⟩
  obtain ⟨r,hr,_,rfl⟩:=fK.1 (show m ∈ aT _ _ _ from hm)
  obtain ⟨j,hj,e⟩:=List.getElem_of_mem hr
  have h1:=(ae.bounds (G.oall j hj)).2.1
  rw [e] at h1; omega
theorem vh {w0 w:World} {B g:Nat} (b:Below B w0 w) (hB:B≤g) (a0 a1 a2 a3:Value):Below B w0 ((((w.setCell ⟨g,0,none⟩ a0).setCell ⟨g,1,none⟩ a1).setCell ⟨g,2,none⟩ a2).setCell ⟨g,3,none⟩ a3):=((((b).setCell (p:=⟨g,0,none⟩) hB a0).setCell (p:=⟨g,1,none⟩) hB a1).setCell (p:=⟨g,2,none⟩) hB a2).setCell (p:=⟨g,3,none⟩) hB a3
theorem vv {w:World} {g:Nat} {t:TypeId} {x0 x1 x2 x3:Value} {r:List Value} (hL:ah w g t (x0 :: x1 :: x2 :: x3 :: r)) (a0 a1 a2 a3:Value):ah ((((w.setCell ⟨g,0,none⟩ a0).setCell ⟨g,1,none⟩ a1).setCell ⟨g,2,none⟩ a2).setCell ⟨g,3,none⟩ a3) g t (a0 :: a1 :: a2 :: a3 :: r):=((((hL).set 0 a0).set 1 a1).set 2 a2).set 3 a3
theorem sZ {w:World} {g:Nat} {t:TypeId} {x0 x1 x2 x3 x4:Value} {r:List Value} (hL:ah w g t (x0 :: x1 :: x2 :: x3 :: x4 :: r)) (a0 a1 a2 a3 a4:Value):ah (((((w.setCell ⟨g,0,none⟩ a0).setCell ⟨g,1,none⟩ a1).setCell ⟨g,2,none⟩ a2).setCell ⟨g,3,none⟩ a3).setCell ⟨g,4,none⟩ a4) g t (a0 :: a1 :: a2 :: a3 :: a4 :: r):=(((((hL).set 0 a0).set 1 a1).set 2 a2).set 3 a3).set 4 a4
theorem eO {w0 w:World} {B g:Nat} (b:Below B w0 w) (hB:B≤g) (a0 a1 a2 a3 a4 a5 a6 a7:Value):Below B w0 ((((((((w.setCell ⟨g,0,none⟩ a0).setCell ⟨g,1,none⟩ a1).setCell ⟨g,2,none⟩ a2).setCell ⟨g,3,none⟩ a3).setCell ⟨g,4,none⟩ a4).setCell ⟨g,5,none⟩ a5).setCell ⟨g,6,none⟩ a6).setCell ⟨g,7,none⟩ a7):=((((((((b).setCell (p:=⟨g,0,none⟩) hB a0).setCell (p:=⟨g,1,none⟩) hB a1).setCell (p:=⟨g,2,none⟩) hB a2).setCell (p:=⟨g,3,none⟩) hB a3).setCell (p:=⟨g,4,none⟩) hB a4).setCell (p:=⟨g,5,none⟩) hB a5).setCell (p:=⟨g,6,none⟩) hB a6).setCell (p:=⟨g,7,none⟩) hB a7
theorem oh {w:World} {g:Nat} {t:TypeId} {x0 x1 x2 x3 x4 x5 x6 x7:Value} {r:List Value} (hL:ah w g t (x0 :: x1 :: x2 :: x3 :: x4 :: x5 :: x6 :: x7 :: r)) (a0 a1 a2 a3 a4 a5 a6 a7:Value):ah ((((((((w.setCell ⟨g,0,none⟩ a0).setCell ⟨g,1,none⟩ a1).setCell ⟨g,2,none⟩ a2).setCell ⟨g,3,none⟩ a3).setCell ⟨g,4,none⟩ a4).setCell ⟨g,5,none⟩ a5).setCell ⟨g,6,none⟩ a6).setCell ⟨g,7,none⟩ a7) g t (a0 :: a1 :: a2 :: a3 :: a4 :: a5 :: a6 :: a7 :: r):=((((((((hL).set 0 a0).set 1 a1).set 2 a2).set 3 a3).set 4 a4).set 5 a5).set 6 a6).set 7 a7
set_option maxRecDepth 100000 in
theorem rH (x:aO) (l:Lg) (s:ByteArray) (n:Int) (w:World) (h:aP w w.heap.size x) (G:bH x) :
  Calls vx 87 #[aI x l,vw s,O U n] w fun e w'=>e=.returned (.tuple #[aI x l,vw ((gH x s n).getD cJ)])∧Below w.heap.size w w':=by
 have L1:=(ah.new w 42 #[F x.TA x.t.length x.tc,F x.OA x.o.length x.oc,O U x.gt,O U x.sd,O U x.ms,vw l.D,vw l.P,O U l.n]).alloc (.cells #[F none 0 0,F none 0 0,O U 0,O U 0,O U 0,vw ⟨#[]⟩,vw ⟨#[]⟩,O U 0] 42)
 have L2:=ah.new1 w (.cells #[F x.TA x.t.length x.tc,F x.OA x.o.length x.oc,O U x.gt,O U x.sd,O U x.ms,vw l.D,vw l.P,O U l.n] 42) 42 #[F none 0 0,F none 0 0,O U 0,O U 0,O U 0,vw ⟨#[]⟩,vw ⟨#[]⟩,O U 0]
 have b1:=bZ w (.cells #[F x.TA x.t.length x.tc,F x.OA x.o.length x.oc,O U x.gt,O U x.sd,O U x.ms,vw l.D,vw l.P,O U l.n] 42)
 have b2:=b1.alloc b1.size (.cells #[F none 0 0,F none 0 0,O U 0,O U 0,O U 0,vw ⟨#[]⟩,vw ⟨#[]⟩,O U 0] 42)
 have hW:=h.up b2 nR
 have we:w.heap.size≤w.heap.size+1:=oM
 clear b1 h
 by_cases h0:s=⟨#[97,116]⟩
 ·subst h0
  have HV:Hid ((gH x ⟨#[97,116]⟩ n).getD cJ=(kH x n).getD cJ):=by unfold Hid gH; rw [if_pos rfl]
  have BD:=qB G n (an x && cc n 1 999)
  have hc:=fun W hW=>mQ x n W hW
  have HT:Hid ((kH x n).getD cJ=if (an x && cc n 1 999)=true then fl (br (an x && cc n 1 999) (aT (fun r:ae=>decide (r.p=n)) ae.k x.o)) else cJ):=by unfold Hid kH; split <;> rfl
  obtain ⟨ok,vF⟩ : ∃ b,(an x && cc n 1 999)=b:=⟨_,rfl⟩
  obtain ⟨ns,xW⟩ : ∃ b,br (an x && cc n 1 999) (aT (fun r:ae=>decide (r.p=n)) ae.k x.o)=b:=⟨_,rfl⟩
  rw [xW] at BD hc HT
  rw [vF] at hc HT
  have hl:=fun W A c hR=>mF A c ns ok W hR BD.1 BD.2
  obtain ⟨T,hT⟩ : ∃ T,(if ok=true then fl ns else cJ)=T:=⟨_,rfl⟩
  rw [hT] at hl HT
  rw [HT.out] at HV
  clear vF xW hT HT BD
  go_enter Tryz.func87,Tryz.ntmps87
  go_wp2_with fail
  generalize ((w.alloc (.cells #[F x.TA x.t.length x.tc,F x.OA x.o.length x.oc,O U x.gt,O U x.sd,O U x.ms,vw l.D,vw l.P,O U l.n] 42)).alloc (.cells #[F none 0 0,F none 0 0,O U 0,O U 0,O U 0,vw ⟨#[]⟩,vw ⟨#[]⟩,O U 0] 42))=W at L1 L2 b2 hW ⊢
  refine (hc _ hW).mono ?_
  rintro e W1 ⟨A',c',rfl,hO,hb⟩
  have xB:=hO.reads
  have K1:=L1.below hb L1.lt
  have K2:=L2.below hb L2.lt
  have b3:=av b2 hb
  clear hO L1 L2
  go_wp2_with fail
  refine al (Sw 4 (fun W9=>Below W1.heap.size W1 W9) (fun W9=>Below w.heap.size w W9∧ah W9 (w.heap.size+1) 42 [F x.TA x.t.length x.tc,F x.OA x.o.length x.oc,O U x.gt,O U x.sd,O U x.ms,vw l.D,vw l.P,O U l.n])) (fun i w1 w2=>i ∉ [4]→Below w1.heap.size w1 w2) kZ kZ kZ (Sw.start jB.drew) ?_
  simp only [aw,Act.put,sA,gs0,gs1,Nat.zero_add,Nat.reduceAdd]
  refine aa _ (vb0C8 K1) ?_
  refine aa _ vb0 ?_
  refine aa _ vb0 ?_
  refine aa (vw T) (fun vs L9 w9 vA vy hB K9 vz=>?_) ?_
  next =>
   replace vy:=sb vy vA
   have d1:=fe hB 1
   have d2:=fe hB 2
   simp only [d1,d2] at vz ⊢
   go_simp
   refine (hl w9 A' c' (xB.then vy)).mono ?_
   rintro en w8 ⟨rfl,vB⟩
   exact vz _ _ rfl (Sw.stay vA kZ dD (vy.trans (vB.mono vy.size))) (fun _=>vB)
  refine aa (undef) (fun vs L9 w9 vA vy hB K9 vz=>?_) ?_
  next =>
   replace vy:=vy.here vA
   have d0:=fe hB 0
   simp only [d0] at vz ⊢
   have Lr:=K2.below vy K2.lt
   obtain ⟨z0,z1,z2,z3,z4,z5,z6,z7⟩:=cells8 Lr
   obtain ⟨f0,f1,f2,f3,f4,f5,f6,f7⟩:=frz8 Lr
   have wb:=jZ (show ah _ (w.heap.size+1) 42 [F x.TA x.t.length x.tc,F x.OA x.o.length x.oc,O U x.gt,O U x.sd,O U x.ms,vw l.D,vw l.P,O U l.n] from oh (Lr) (F x.TA x.t.length x.tc) (F x.OA x.o.length x.oc) (O U x.gt) (O U x.sd) (O U x.ms) (vw l.D) (vw l.P) (O U l.n))
   have wI:=jZ (eO (g:=(w.heap.size+1)) ((b3).trans (vy.mono (b3).size)) we (F x.TA x.t.length x.tc) (F x.OA x.o.length x.oc) (O U x.gt) (O U x.sd) (O U x.ms) (vw l.D) (vw l.P) (O U l.n))
   clear Lr
   go_simp
   exact vz _ _ rfl (Sw.turn ⟨wI.out,wb.out⟩) nq
  refine aa _ (va1 3) ?_
  refine au fun vs L9 w9 vI vy hB=>?_
  replace vy:=vy.done vI dD
  have dl:=ag.eq (hB 5 _ rfl rfl dD)
  simp only [dl]
  clear hB dl
  obtain ⟨hD,hN⟩:=vy
  obtain ⟨k0,k1,k2,k3,k4,k5,k6,k7⟩:=cells8 hN
  clear hN
  go_wp2
  refine bodyPost_ret (v:=.tuple #[aI x l,vw T]) (by simp [results,Tryz.results87,go_sem, *]) rfl ⟨by rw [HV.out],hD⟩
 have f0:(s.toList == [97,116])=false:=bT h0
 by_cases h1:s=⟨#[119,105,116,104]⟩
 ·subst h1
  have HV:Hid ((gH x ⟨#[119,105,116,104]⟩ n).getD cJ=(il x n).getD cJ):=by unfold Hid gH; rw [if_neg dD,if_pos rfl]
  have BD:=nH G n (an x && aS x.t n)
  have hc:=fun W hW=>kq x n W hW
  have HT:Hid ((il x n).getD cJ=if (an x && aS x.t n)=true then fl (br (an x && aS x.t n) (aT (fun r:ae=>decide (r.k=n)) ae.p x.o)) else cJ):=by unfold Hid il; split <;> rfl
  obtain ⟨ok,vF⟩ : ∃ b,(an x && aS x.t n)=b:=⟨_,rfl⟩
  obtain ⟨ns,xW⟩ : ∃ b,br (an x && aS x.t n) (aT (fun r:ae=>decide (r.k=n)) ae.p x.o)=b:=⟨_,rfl⟩
  rw [xW] at BD hc HT
  rw [vF] at hc HT
  have hl:=fun W A c hR=>mF A c ns ok W hR BD.1 BD.2
  obtain ⟨T,hT⟩ : ∃ T,(if ok=true then fl ns else cJ)=T:=⟨_,rfl⟩
  rw [hT] at hl HT
  rw [HT.out] at HV
  clear vF xW hT HT BD
  go_enter Tryz.func87,Tryz.ntmps87
  go_wp2_with fail
  generalize ((w.alloc (.cells #[F x.TA x.t.length x.tc,F x.OA x.o.length x.oc,O U x.gt,O U x.sd,O U x.ms,vw l.D,vw l.P,O U l.n] 42)).alloc (.cells #[F none 0 0,F none 0 0,O U 0,O U 0,O U 0,vw ⟨#[]⟩,vw ⟨#[]⟩,O U 0] 42))=W at L1 L2 b2 hW ⊢
  refine (hc _ hW).mono ?_
  rintro e W1 ⟨A',c',rfl,hO,hb⟩
  have xB:=hO.reads
  have K1:=L1.below hb L1.lt
  have K2:=L2.below hb L2.lt
  have b3:=av b2 hb
  clear hO L1 L2
  go_wp2_with fail
  refine al (Sw 4 (fun W9=>Below W1.heap.size W1 W9) (fun W9=>Below w.heap.size w W9∧ah W9 (w.heap.size+1) 42 [F x.TA x.t.length x.tc,F x.OA x.o.length x.oc,O U x.gt,O U x.sd,O U x.ms,vw l.D,vw l.P,O U l.n])) (fun i w1 w2=>i ∉ [4]→Below w1.heap.size w1 w2) kZ kZ kZ (Sw.start jB.drew) ?_
  simp only [aw,Act.put,sA,gs0,gs1,Nat.zero_add,Nat.reduceAdd]
  refine aa _ (vb0C8 K1) ?_
  refine aa _ vb0 ?_
  refine aa _ vb0 ?_
  refine aa (vw T) (fun vs L9 w9 vA vy hB K9 vz=>?_) ?_
  next =>
   replace vy:=sb vy vA
   have d1:=fe hB 1
   have d2:=fe hB 2
   simp only [d1,d2] at vz ⊢
   go_simp
   refine (hl w9 A' c' (xB.then vy)).mono ?_
   rintro en w8 ⟨rfl,vB⟩
   exact vz _ _ rfl (Sw.stay vA kZ dD (vy.trans (vB.mono vy.size))) (fun _=>vB)
  refine aa (undef) (fun vs L9 w9 vA vy hB K9 vz=>?_) ?_
  next =>
   replace vy:=vy.here vA
   have d0:=fe hB 0
   simp only [d0] at vz ⊢
   have Lr:=K2.below vy K2.lt
   obtain ⟨z0,z1,z2,z3,z4,z5,z6,z7⟩:=cells8 Lr
   obtain ⟨f0,f1,f2,f3,f4,f5,f6,f7⟩:=frz8 Lr
   have wb:=jZ (show ah _ (w.heap.size+1) 42 [F x.TA x.t.length x.tc,F x.OA x.o.length x.oc,O U x.gt,O U x.sd,O U x.ms,vw l.D,vw l.P,O U l.n] from oh (Lr) (F x.TA x.t.length x.tc) (F x.OA x.o.length x.oc) (O U x.gt) (O U x.sd) (O U x.ms) (vw l.D) (vw l.P) (O U l.n))
   have wI:=jZ (eO (g:=(w.heap.size+1)) ((b3).trans (vy.mono (b3).size)) we (F x.TA x.t.length x.tc) (F x.OA x.o.length x.oc) (O U x.gt) (O U x.sd) (O U x.ms) (vw l.D) (vw l.P) (O U l.n))
   clear Lr
   go_simp
   exact vz _ _ rfl (Sw.turn ⟨wI.out,wb.out⟩) nq
  refine aa _ (va1 3) ?_
  refine au fun vs L9 w9 vI vy hB=>?_
  replace vy:=vy.done vI dD
  have dl:=ag.eq (hB 5 _ rfl rfl dD)
  simp only [dl]
  clear hB dl
  obtain ⟨hD,hN⟩:=vy
  obtain ⟨k0,k1,k2,k3,k4,k5,k6,k7⟩:=cells8 hN
  clear hN
  go_wp2
  refine bodyPost_ret (v:=.tuple #[aI x l,vw T]) (by simp [results,Tryz.results87,go_sem, *]) rfl ⟨by rw [HV.out],hD⟩
 have f1:(s.toList == [119,105,116,104])=false:=bT h1
 by_cases h2:s=⟨#[116,101,120,116]⟩
 ·subst h2
  have HV:Hid ((gH x ⟨#[116,101,120,116]⟩ n).getD cJ=(jU x n).getD cJ):=by unfold Hid gH; rw [if_neg dD,if_neg dD,if_pos rfl]
  have hc:=fun W hW=>mE x n W hW
  obtain ⟨T,hT⟩ : ∃ T,(jU x n).getD cJ=T:=⟨_,rfl⟩
  rw [hT] at hc HV
  clear hT
  go_enter Tryz.func87,Tryz.ntmps87
  go_wp2_with fail
  generalize ((w.alloc (.cells #[F x.TA x.t.length x.tc,F x.OA x.o.length x.oc,O U x.gt,O U x.sd,O U x.ms,vw l.D,vw l.P,O U l.n] 42)).alloc (.cells #[F none 0 0,F none 0 0,O U 0,O U 0,O U 0,vw ⟨#[]⟩,vw ⟨#[]⟩,O U 0] 42))=W at L1 L2 b2 hW ⊢
  refine al (Sw 5 (fun W9=>Below W.heap.size W W9) (fun W9=>Below w.heap.size w W9∧ah W9 (w.heap.size+1) 42 [F x.TA x.t.length x.tc,F x.OA x.o.length x.oc,O U x.gt,O U x.sd,O U x.ms,vw l.D,vw l.P,O U l.n])) (fun i w1 w2=>i ∉ [5]→Below w1.heap.size w1 w2) kZ kZ kZ (Sw.start jB.drew) ?_
  simp only [aw,Act.put,sA,gs0,gs1,Nat.zero_add,Nat.reduceAdd]
  refine aa _ (vb0C8 L1) ?_
  refine aa _ vb0 ?_
  refine aa _ (vb1C5 1 L1) ?_
  refine aa _ vb0 ?_
  refine aa (vw T) (fun vs L9 w9 vA vy hB K9 vz=>?_) ?_
  next =>
   replace vy:=sb vy vA
   have d2:=fe hB 2
   have d3:=fe hB 3
   simp only [d2,d3] at vz ⊢
   go_simp
   refine (hc w9 (hW.then vy)).mono ?_
   rintro en w8 ⟨rfl,vB⟩
   exact vz _ _ rfl (Sw.stay vA kZ dD (vy.trans (vB.mono vy.size))) (fun _=>vB)
  refine aa (undef) (fun vs L9 w9 vA vy hB K9 vz=>?_) ?_
  next =>
   replace vy:=vy.here vA
   have d0:=fe hB 0
   simp only [d0] at vz ⊢
   have Lr:=L2.below vy L2.lt
   obtain ⟨z0,z1,z2,z3,z4,z5,z6,z7⟩:=cells8 Lr
   obtain ⟨f0,f1,f2,f3,f4,f5,f6,f7⟩:=frz8 Lr
   have wb:=jZ (show ah _ (w.heap.size+1) 42 [F x.TA x.t.length x.tc,F x.OA x.o.length x.oc,O U x.gt,O U x.sd,O U x.ms,vw l.D,vw l.P,O U l.n] from oh (Lr) (F x.TA x.t.length x.tc) (F x.OA x.o.length x.oc) (O U x.gt) (O U x.sd) (O U x.ms) (vw l.D) (vw l.P) (O U l.n))
   have wI:=jZ (eO (g:=(w.heap.size+1)) ((b2).trans (vy.mono (b2).size)) we (F x.TA x.t.length x.tc) (F x.OA x.o.length x.oc) (O U x.gt) (O U x.sd) (O U x.ms) (vw l.D) (vw l.P) (O U l.n))
   clear Lr
   go_simp
   exact vz _ _ rfl (Sw.turn ⟨wI.out,wb.out⟩) nq
  refine aa _ (va1 4) ?_
  refine au fun vs L9 w9 vI vy hB=>?_
  replace vy:=vy.done vI dD
  have dl:=ag.eq (hB 6 _ rfl rfl dD)
  simp only [dl]
  clear hB dl
  obtain ⟨hD,hN⟩:=vy
  obtain ⟨k0,k1,k2,k3,k4,k5,k6,k7⟩:=cells8 hN
  clear hN
  go_wp2
  refine bodyPost_ret (v:=.tuple #[aI x l,vw T]) (by simp [results,Tryz.results87,go_sem, *]) rfl ⟨by rw [HV.out],hD⟩
 have f2:(s.toList == [116,101,120,116])=false:=bT h2
 have HV:Hid ((gH x s n).getD cJ=cJ):=by unfold Hid gH; rw [if_neg h0,if_neg h1,if_neg h2]; rfl
 clear h0 h1 h2
 go_enter Tryz.func87,Tryz.ntmps87
 go_upto_region 10 with fail
 generalize ((w.alloc (.cells #[F x.TA x.t.length x.tc,F x.OA x.o.length x.oc,O U x.gt,O U x.sd,O U x.ms,vw l.D,vw l.P,O U l.n] 42)).alloc (.cells #[F none 0 0,F none 0 0,O U 0,O U 0,O U 0,vw ⟨#[]⟩,vw ⟨#[]⟩,O U 0] 42))=W at L1 L2 b2 hW ⊢
 obtain ⟨c0,c1,c2,c3,c4,c5,c6,c7⟩:=cells8 L1
 obtain ⟨z0,z1,z2,z3,z4,z5,z6,z7⟩:=cells8 L2
 obtain ⟨f0,f1,f2,f3,f4,f5,f6,f7⟩:=frz8 L2
 have bz:=jZ (eO (g:=w.heap.size+1) (b2) we (F x.TA x.t.length x.tc) (F x.OA x.o.length x.oc) (O U x.gt) (O U x.sd) (O U x.ms) (vw l.D) (vw l.P) (O U l.n))
 clear L1 L2 b2 hW
 go_wp2
 refine bodyPost_ret (v:=.tuple #[aI x l,vw ⟨#[63]⟩]) (by simp [results,Tryz.results87,go_sem, *]) rfl ⟨by rw [HV.out]; rfl,bz.out⟩
end Go.Proofs.YtoeoimhemojdeaaGreatDoor
