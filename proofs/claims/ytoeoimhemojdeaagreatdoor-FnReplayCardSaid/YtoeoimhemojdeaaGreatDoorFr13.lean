/- Lemmas. -/
import Derived.Lib.Join
import Derived.Deep.DeepCutAuto
import Derived.Lib.Split
import Derived.Lib.CountLaws
import Derived.Test.YtoeoimhemojdeaaGreatDoorFr10
import Derived.Test.YtoeoimhemojdeaaGreatDoorFr12

set_option linter.unusedVariables false
set_option linter.unusedSimpArgs false
set_option maxHeartbeats 8000000
open Go.Value renaming int → O, slice → F, string → xh
open Go.IntKind renaming i64 → U
open Go.Proofs.Tryz renaming prog → xi

namespace Go.Proofs.YtoeoimhemojdeaaGreatDoor
open Go.RowKit
noncomputable def dW:List (List UInt8)→Option (List Int)
 | []=>some []
 | t :: l=>match df t with
  | none=>none
  | some n=>(dW l).map (n :: ·)
theorem pI:∀ {l:List (List UInt8)} {ns:List Int},dW l=some ns→ns.length=l.length
 | [],ns,h=>by simp only [dW,Option.some.injEq] at h; subst h; rfl
 | t :: l,ns,h=>by
  unfold dW at h
  cases hn:df t with
  | none=>rw [hn] at h; cases h
  | some n =>
   rw [hn] at h
   cases hl:dW l with
   | none=>rw [hl] at h; cases h
   | some ms =>
    rw [hl] at h
    simp only [Option.map_some,Option.some.injEq] at h
    subst h
    simp [pI hl]
noncomputable def gK (acc:List Int) (l:List (List UInt8)):Option (List Int):=(dW l).map (acc++·)
theorem oE (acc:List Int):gK acc []=some acc:=by simp [gK,dW]
theorem nb (l:List (List UInt8)):gK [] l=dW l:=by
 unfold gK; cases dW l <;> simp
theorem nc {acc:List Int} {l:List (List UInt8)} {k:Nat} (h:k < l.length) (hn:df l[k]=none):gK acc (l.drop k)=none:=by
 rw [List.drop_eq_getElem_cons h]; unfold gK dW; rw [hn]; rfl
theorem nd {acc:List Int} {l:List (List UInt8)} {k:Nat} {n:Int} (h:k < l.length) (hn:df l[k]=some n):gK acc (l.drop k)=gK (acc++[n]) (l.drop (k+1)):=by
 rw [List.drop_eq_getElem_cons h]; unfold gK; rw [dW,hn]
 cases dW (l.drop (k+1)) <;> simp
def fC (l:List Int):ByteArray:=if l.length=0 then ⟨#[110,111,110,101]⟩ else ⟨(Lib.join (l.map Lib.itoa) [32]).toArray⟩
def dy (x:aN) (s:ByteArray):Option ByteArray :=
 if s=⟨#[105,110]⟩ then some (bM (cF x.t))
 else if s=⟨#[111,117,116]⟩ then some (bM (aW dq x.o))
 else if s=⟨#[103,111,116]⟩ then some (bM x.gt)
 else if s=⟨#[115,111,108,100]⟩ then some (bM x.sd)
 else if s=⟨#[109,105,115,115,101,100]⟩ then some (bM x.ms)
 else if s=⟨#[98,117,115,105,101,115,116]⟩ then (if dn x then some (bM (dM x)) else none)
 else none
def lp (x:aN) (n:Int):Option ByteArray:=if ap x && bX n 1 999 then some (fC (bC (ap x && bX n 1 999) (aT (fun r:ae=>decide (r.p=n)) ae.k x.o))) else none
def iJ (x:aN) (n:Int):Option ByteArray:=if ap x && aS x.t n then some (fC (bC (ap x && aS x.t n) (aT (fun r:ae=>decide (r.k=n)) ae.p x.o))) else none
def kw (x:aN) (n:Int):Option ByteArray:=if ap x && aS x.t n then some (eH x n) else none
def ia (x:aN) (s:ByteArray) (n:Int):Option ByteArray :=
 if s=⟨#[97,116]⟩ then lp x n
 else if s=⟨#[119,105,116,104]⟩ then iJ x n
 else if s=⟨#[116,101,120,116]⟩ then kw x n
 else none
def iK (z:aN) (s:de):ByteArray:=if s.kind=1 then bM (cF z.t) else if s.kind=4 then bM z.sd else if s.kind=5 then bM z.ms else eH z s.stamp
def cZ (s:ByteArray) (a b:Int):Option de :=
 if s=⟨#[103,101,116]⟩ then some ⟨1,a,0,b⟩
 else if s=⟨#[109,105,115,115]⟩ then some ⟨5,a,b,0⟩
 else none
def dA (s:ByteArray) (a b c:Int):Option de :=
 if s=⟨#[115,104,111,119]⟩ then some ⟨2,a,b,c⟩
 else if s=⟨#[98,97,99,107]⟩ then some ⟨3,a,b,c⟩
 else if s=⟨#[115,101,108,108]⟩ then some ⟨4,a,b,c⟩
 else if s=⟨#[109,111,118,101]⟩ then some ⟨6,a,b,c⟩
 else none
def Oc.off (y:Oc):aN:=y.at none 0 none 0
def cc (x:aN) (s:de):Option (Oc × ByteArray):=(gy x.c s).map fun z=>(z,iK z.off s)
noncomputable def bG (x:aN) (w0:ByteArray):List Int→Option (Oc × ByteArray)
 | []=>(dy x w0).map (x.c,·)
 | [n]=>(ia x w0 n).map (x.c,·)
 | [a,b]=>(cZ w0 a b).bind (cc x)
 | [a,b,c]=>(dA w0 a b c).bind (cc x)
 | _=>none
def wd (l:List UInt8) (j:Nat):ByteArray:=⟨((aH 32 l).getD j []).toArray⟩
noncomputable def jg (x:aN) (line:ByteArray):Option (Oc × ByteArray):=(dW ((aH 32 (bl line)).drop 1)).bind (bG x (wd (bl line) 0))
noncomputable def jv (x:aN) (line:ByteArray):ByteArray:=match jg x line with
 | none=>⟨#[63]⟩
 | some r=>if 200 < r.2.size then ⟨#[108,111,110,103]⟩ else r.2
noncomputable def rE (x:aN) (line:ByteArray):Oc:=match jg x line with
 | none=>x.c
 | some r=>r.1
noncomputable def gA (x:aN) (l:Lg) (line:ByteArray):ByteArray :=
 if eu x l then (if dj.ok ⟨line,⟨#[]⟩⟩ then (if l.n=60 then ⟨#[102,117,108,108]⟩ else jv x line) else ⟨#[98,97,100]⟩) else ⟨#[110,111]⟩
noncomputable def fD (x:aN) (l:Lg) (line:ByteArray):Oc :=
 if eu x l then (if dj.ok ⟨line,⟨#[]⟩⟩ then (if l.n=60 then x.c else rE x line) else x.c) else x.c
noncomputable def fH (x:aN) (l:Lg) (line:ByteArray):Lg :=
 if eu x l then (if dj.ok ⟨line,⟨#[]⟩⟩ then (if l.n=60 then l else cm l ⟨line,jv x line⟩) else l) else l
theorem wJ {l:List UInt8} (h:(aH 32 l).length=1):wd l 0=⟨l.toArray⟩:=by
 obtain ⟨ps,h1,h2⟩:=gG 32 l
 have hp:ps = []:=by rw [h1] at h; simpa using h
 have hf:=h2.1 hp
 unfold wd
 rw [jR hf]; rfl
theorem jV (ts:List ar) (kd n:Int):aS (aj ts kd n) kd=true:=by
 unfold aS aj
 rw [List.any_eq_true]
 split
 ·rename_i hx
  obtain ⟨i,hi⟩:=gJ hx
  obtain ⟨h1,h2⟩:=ir hi
  have e:(ay ts kd).toNat=i:=oM
  rw [e]
  refine ⟨_,List.mem_of_getElem? (i:=i) (by rw [List.getElem?_set_self h1]), ?_⟩
  rw [List.getD_eq_getElem?_getD,List.getElem?_eq_getElem h1]
  exact jD h2
 ·exact ⟨⟨kd,n⟩,sP,jD rfl⟩
theorem lq {r r' : Oc} (h:Oc.fin r=some r'):r'=r:=by
 unfold Oc.fin at h
 split at h
 ·injection h with h; exact h.symm
 ·cases h
theorem sM {y r:Oc} {s:de} (h:bm y s=some r):aS r.t s.stamp=true:=by
 have key : ¬ ¬ 0≤ay y.t s.stamp→aS y.t s.stamp=true:=fun h=>by rw [← dP]; exact jD oM
 unfold bm at h
 split at h
 ·rw [lq h]; exact jV _ _ _
 split at h
 ·cases h
 rename_i hT
 split at h
 ·rw [lq h]; exact jV _ _ _
 split at h
 ·cases h
 split at h
 ·rw [lq h]; exact jV _ _ _
 split at h
 ·split at h
  ·rw [lq h]; exact jV _ _ _
  ·rw [lq h]; exact key hT
 split at h
 ·rw [lq h]; exact key hT
 ·rw [lq h]; exact key hT
theorem fL {y r:Oc} {s:de} (h:gy y s=some r):r.good=true∧aS r.t s.stamp=true:=by
 unfold gy at h
 split at h
 ·exact ⟨li h,sM h⟩
 ·cases h
theorem bK.inB {x:aN} (G:bK x):0≤cF x.t∧cF x.t≤1000000:=by
 have h1:=kB x.t 0 G.tall
 have h2:=G.tl
 change 0≤cF x.t∧cF x.t≤_ at h1
 omega
theorem bK.outB {x:aN} (G:bK x) (f:ae→Bool):0≤aW f x.o∧aW f x.o≤1000000:=by
 have h1:=fN f x.t x.o 0 G.oall
 have h2:=G.ol
 change 0≤aW f x.o∧aW f x.o≤_ at h1
 omega
theorem vJ {x:aN} : 0≤dM x∧dM x≤1000000:=by
 by_cases h:dn x=true
 ·have:=(vI h).1
  rw [Bool.and_eq_true] at this
  have:=bV.1 this.2
  omega
 ·unfold dM; rw [if_neg h]; omega
theorem bW {s:ByteArray} {l:List UInt8} (h : ¬ s=⟨l.toArray⟩):(s.toList == l)=false:=by
 refine beq_false_of_ne fun e=>h (dU ?_)
 rw [← e,ByteArray.toList_eq]; rfl
def da:ByteArray:=⟨#[63]⟩
theorem gQ (n:Int) (ok:Bool) (w:World) (h:ok=true→0≤n∧n≤1000000000) :
  Calls xi 137 #[O U n,.bool ok] w fun e w'=>e=.returned (xh (if ok then bM n else da))∧Below w.heap.size w w':=by
 cases ok
 ·go_enter Tryz.func137,Tryz.ntmps137
  go_wp2
  go_ret
  exact ⟨rfl,Below.refl _ _⟩
 ·have HN:=fun W=>cy n W (h rfl).1 (h rfl).2
  go_enter Tryz.func137,Tryz.ntmps137
  go_wp2_with fail
  refine (HN _).mono ?_
  rintro e w1 ⟨rfl,hb⟩
  go_wp2
  go_ret
  exact ⟨rfl,hb⟩
theorem nf (x:aN) (kd:Int) (w:World) (h:aQ w w.heap.size x) :
  Calls xi 143 #[x.val,O U kd] w fun e w'=>e=.returned (xh ((kw x kd).getD da))∧Below w.heap.size w w':=by
 have b0:=bZ w (.cells #[F x.TA x.t.length x.tc,F x.OA x.o.length x.oc,O U x.gt,O U x.sd,O U x.ms] 40)
 have hc:=fun W hW=>mE x kd W hW
 have HT:Hid ((kw x kd).getD da=if (ap x && aS x.t kd)=true then eH x kd else da):=by unfold Hid kw; split <;> rfl
 obtain ⟨ok,xq⟩ : ∃ b,(ap x && aS x.t kd)=b:=⟨_,rfl⟩
 obtain ⟨tx,LH⟩ : ∃ b,eH x kd=b:=⟨_,rfl⟩
 rw [xq,LH] at hc HT
 clear xq LH
 cases ok
 all_goals
  go_enter Tryz.func143,Tryz.ntmps143
  go_wp2_with fail
  refine (hc _ (h.up b0 nR)).mono ?_
  rintro e w1 ⟨rfl,hb⟩
  go_wp2
  go_ret
  exact ⟨by rw [HT.out]; rfl,av b0 hb⟩
def jw (l:List Int):List UInt8:=Lib.join (l.map Lib.itoa) [32]
theorem uF (n:Int):jw [n]=Lib.itoa n:=by simp [jw,Lib.join_cons,Lib.joinTail]
theorem sN {l:List Int} {k:Nat} (h:k < l.length) (hk:0 < k):jw (l.take (k+1))=jw (l.take k)++[32]++Lib.itoa l[k]:=by
 have xw:l.take k ≠ []:=by
  intro e
  have h3:(l.take k).length=k:=by rw [List.length_take]; omega
  rw [e,List.length_nil] at h3; omega
 obtain ⟨a,t,ht⟩:=List.exists_cons_of_ne_nil xw
 rw [List.take_succ_eq_append_getElem h,ht]
 unfold jw
 simp [Lib.join_cons,Lib.joinTail]
theorem sO {l:List Int} (h:∀ n ∈ l,0≤n∧n≤1000000000):(jw l).length≤l.length * 101:=by
 have h1:∀ (m:List Int),(∀ n ∈ m,0≤n∧n≤1000000000)→(Lib.joinTail [32] (m.map Lib.itoa)).length≤m.length * 101:=by
  intro m
  induction m with
  | nil=>intro _; simp [Lib.joinTail]
  | cons a m ih =>
   intro hm
   have h2:=ih fun n hn=>hm n (List.mem_cons_of_mem _ hn)
   have h3:(⟨(Lib.itoa a).toArray⟩ : ByteArray).size≤100:=cU (hm a List.mem_cons_self).1 (hm a List.mem_cons_self).2
   have h4:(Lib.itoa a).length≤100:=by rw [← bO (Lib.itoa a),ao]; exact h3
   have e:Lib.joinTail [32] ((a :: m).map Lib.itoa) = [32]++Lib.itoa a++Lib.joinTail [32] (m.map Lib.itoa):=by simp [Lib.joinTail]
   rw [e,List.length_append,List.length_append,List.length_cons,List.length_cons,List.length_nil]; omega
 cases l with
 | nil=>simp [jw,Lib.join_nil]
 | cons a l =>
  have h2:=h1 l fun n hn=>h n (List.mem_cons_of_mem _ hn)
  have h3:(⟨(Lib.itoa a).toArray⟩ : ByteArray).size≤100:=cU (h a List.mem_cons_self).1 (h a List.mem_cons_self).2
  have h4:(Lib.itoa a).length≤100:=by rw [← bO (Lib.itoa a),ao]; exact h3
  unfold jw
  rw [List.map_cons,Lib.join_cons,List.length_append,List.length_cons]; omega
theorem sQ {l:List Int} (h:0 < l.length):fC l=⟨(jw l).toArray⟩:=by unfold fC; rw [if_neg oM]; rfl
theorem nh (A:Option Addr) (c:Nat) (l:List Int) (ok:Bool) (w:World) (h:iS w w.heap.size A l) (Fl:l.length≤8) (hr:∀ n ∈ l,0≤n∧n≤1000000000) :
  Calls xi 141 #[F A l.length c,.bool ok] w fun e w'=>e=.returned (xh (if ok then fC l else da))∧Below w.heap.size w w':=by
 have yQ:=iS.ints h
 cases ok
 ·go_enter Tryz.func141,Tryz.ntmps141
  go_wp2
  go_ret
  exact ⟨rfl,Below.refl _ _⟩
 ·rcases Nat.eq_zero_or_pos l.length with h0 | h0
  ·have HL:Hid (fC l=⟨#[110,111,110,101]⟩):=by unfold Hid fC; rw [if_pos h0]
   have hz:((l.length:Int) == 0)=true:=by simp [h0]
   go_enter Tryz.func141,Tryz.ntmps141
   go_wp2
   go_ret
   exact ⟨by rw [HL.out]; rfl,Below.refl _ _⟩
  ·have hz:((l.length:Int) == 0)=false:=beq_false_of_ne oM
   have y8:(0:Int) < (l.length:Int):=oM
   have HL:=jZ (sQ h0)
   obtain ⟨b,off,rfl,hb,hcell⟩:=yQ h0
   have c0:∀ p:aq w.heap.size w,p.val.cell? ⟨b,off,none⟩=some (O U l[0]):=fun p=>by have:=hcell 0 h0 p; simpa using this
   have c00:w.cell? ⟨b,off,none⟩=some (O U l[0]):=c0 (aq.start _ _)
   have n0:=hr _ (List.getElem_mem h0)
   have LI:=jZ hr; clear hr
   have EQ:=jZ (fun W=>cy l[0] W n0.1 n0.2)
   have H1:Hid ((⟨(jw (l.take 1)).toArray⟩ : ByteArray)=⟨(Lib.itoa l[0]).toArray⟩):=by
    rw [Hid]
    congr 2
    rw [List.take_succ_eq_append_getElem h0,List.take_zero,List.nil_append,uF]
   have HC:=jZ hcell; clear hcell
   obtain ⟨z,Ht⟩ : ∃ z,l[0]=z:=⟨_,rfl⟩
   rw [Ht] at c0 c00 EQ H1
   clear Ht n0
   clear yQ
   go_enter Tryz.func141,Tryz.ntmps141
   go_wp2_with fail
   refine (EQ.out _).mono ?_
   rintro e w1 ⟨rfl,xp⟩
   obtain ⟨q1,rfl⟩ : ∃ q:aq w.heap.size w,w1=q.val:=⟨⟨w1,xp⟩,rfl⟩
   go_wp2_with fail
   go_loopw [5,6] (fun s i wr=>∃ (k:Nat),1≤k∧k≤l.length∧i=O U k∧s=xh ⟨(jw (l.take k)).toArray⟩∧(∃ q:aq w.heap.size w,wr=q.val)) (fun _ i _=>l.length - (intOf i).toNat)
   case atStart=>exact ⟨1,Nat.le_refl _,h0,rfl,by rw [H1.out],⟨q1,rfl⟩⟩
   case round =>
    obtain ⟨k,AA,hk,rfl,rfl,q,rfl⟩:=hrel
    by_cases xu:k < l.length
    ·have c0:=HC.out k xu
     have n0:=LI.out _ (List.getElem_mem xu)
     have LJ:=jZ (sN xu oM)
     have xY:(jw (l.take k)).length≤1000:=by
      have h1:=sO (l:=l.take k) (fun n hn=>LI.out n (List.mem_of_mem_take hn))
      rw [List.length_take] at h1; omega
     obtain ⟨S,hS⟩ : ∃ S:ByteArray,S=⟨(jw (l.take k)).toArray⟩:=⟨_,rfl⟩
     have HS:=jZ hS
     have Oy:S.size≤1000:=by rw [hS]; exact xY
     rw [← hS]
     clear hS xY
     obtain ⟨z,Ht⟩ : ∃ z,l[k]=z:=⟨_,rfl⟩
     rw [Ht] at c0 n0 LJ
     clear Ht
     obtain ⟨T,hT⟩ : ∃ T:ByteArray,T=⟨(Lib.itoa z).toArray⟩:=⟨_,rfl⟩
     have Oz:T.size≤100:=by rw [hT]; exact cU n0.1 n0.2
     have NUM:Hid (∀ W:World,Calls xi 71 #[O U z] W fun e w'=>e=.returned (xh T)∧Below W.heap.size W w'):=fun W=>by rw [hT]; exact cy z W n0.1 n0.2
     have HT:=jZ hT
     clear hT n0
     have e1:(⟨#[32]⟩ : ByteArray).size=1:=rfl
     have z1:(S++⟨#[32]⟩).size≤1001:=by rw [bg]; omega
     go_wp2_with fail
     refine (NUM.out _).mono ?_
     rintro e w4 ⟨rfl,xy⟩
     have hb5:Below w.heap.size w w4:=q.below.trans (xy.mono q.size)
     go_wp2
     go_roundw
     case rel=>exact ⟨k+1,oM,oM,by go_num,by
      congr 1
      refine dU ?_
      rw [LJ.out,dw,dw,HS.out,HT.out,bO,bO,mu],⟨⟨w4,hb5⟩,rfl⟩⟩
     case measure=>simp [intOf]; omega
    ·have ek:k=l.length:=oM
     subst ek
     rw [List.take_length]
     go_wp2
     go_ret
     exact ⟨by rw [HL.out]; rfl,q.below⟩
set_option maxRecDepth 100000 in
theorem rF (x:aN) (s:ByteArray) (w:World) (h:aQ w w.heap.size x) (G:bK x) :
  Calls xi 86 #[x.val,xh s] w fun e w'=>e=.returned (xh ((dy x s).getD da))∧Below w.heap.size w w':=by
 have b0:=bZ w (.cells #[F x.TA x.t.length x.tc,F x.OA x.o.length x.oc,O U x.gt,O U x.sd,O U x.ms] 40)
 have hW:=h.up b0 nR
 have L0:=ai.new w 40 #[F x.TA x.t.length x.tc,F x.OA x.o.length x.oc,O U x.gt,O U x.sd,O U x.ms]
 have zz:ap x=true:=bu.2 G
 by_cases h0:s=⟨#[105,110]⟩
 ·subst h0
  have HV:Hid ((dy x ⟨#[105,110]⟩).getD da=bM (cF x.t)):=by unfold Hid dy; rw [if_pos rfl]; rfl
  have hc:=fun W hW=>jm x W hW
  rw [zz] at hc
  simp only [vf,if_true] at hc
  have hn:=fun W=>gQ (cF x.t) true W (fun _=>⟨G.inB.1,by have:=G.inB.2; omega⟩)
  go_enter Tryz.func86,Tryz.ntmps86
  go_wp2_with fail
  refine (hc _ hW).mono ?_
  rintro e w1 ⟨rfl,xp⟩
  go_wp2_with fail
  refine (hn _).mono ?_
  rintro e w2 ⟨rfl,xn⟩
  go_wp2
  go_ret
  exact ⟨by rw [HV.out]; rfl,av b0 (av xp xn)⟩
 have f0:(s.toList == [105,110])=false:=bW h0
 by_cases h1:s=⟨#[111,117,116]⟩
 ·subst h1
  have HV:Hid ((dy x ⟨#[111,117,116]⟩).getD da=bM (aW dq x.o)):=by unfold Hid dy; rw [if_neg dD,if_pos rfl]; rfl
  have hc:=fun W hW=>lH x W hW
  rw [zz] at hc
  simp only [vf,if_true] at hc
  have hn:=fun W=>gQ (aW dq x.o) true W (fun _=>⟨(G.outB dq).1,by have:=(G.outB dq).2; omega⟩)
  go_enter Tryz.func86,Tryz.ntmps86
  go_wp2_with fail
  refine (hc _ hW).mono ?_
  rintro e w1 ⟨rfl,xp⟩
  go_wp2_with fail
  refine (hn _).mono ?_
  rintro e w2 ⟨rfl,xn⟩
  go_wp2
  go_ret
  exact ⟨by rw [HV.out]; rfl,av b0 (av xp xn)⟩
 have f1:(s.toList == [111,117,116])=false:=bW h1
 by_cases h2:s=⟨#[103,111,116]⟩
 ·subst h2
  have HV:Hid ((dy x ⟨#[103,111,116]⟩).getD da=bM x.gt):=by unfold Hid dy; rw [if_neg dD,if_neg dD,if_pos rfl]; rfl
  have hn:=fun W=>cy x.gt W G.g.1 (by have:=G.g.2; omega)
  go_enter Tryz.func86,Tryz.ntmps86
  go_wp2_with fail
  refine (hn _).mono ?_
  rintro e w2 ⟨rfl,xn⟩
  go_wp2
  go_ret
  exact ⟨by rw [HV.out]; rfl,av b0 xn⟩
 have f2:(s.toList == [103,111,116])=false:=bW h2
 by_cases h3:s=⟨#[115,111,108,100]⟩
 ·subst h3
  have HV:Hid ((dy x ⟨#[115,111,108,100]⟩).getD da=bM x.sd):=by unfold Hid dy; rw [if_neg dD,if_neg dD,if_neg dD,if_pos rfl]; rfl
  have hn:=fun W=>cy x.sd W G.s.1 (by have:=G.s.2; omega)
  go_enter Tryz.func86,Tryz.ntmps86
  go_wp2_with fail
  refine (hn _).mono ?_
  rintro e w2 ⟨rfl,xn⟩
  go_wp2
  go_ret
  exact ⟨by rw [HV.out]; rfl,av b0 xn⟩
 have f3:(s.toList == [115,111,108,100])=false:=bW h3
 by_cases h4:s=⟨#[109,105,115,115,101,100]⟩
 ·subst h4
  have HV:Hid ((dy x ⟨#[109,105,115,115,101,100]⟩).getD da=bM x.ms):=by unfold Hid dy; rw [if_neg dD,if_neg dD,if_neg dD,if_neg dD,if_pos rfl]; rfl
  have hn:=fun W=>cy x.ms W G.m.1 (by have:=G.m.2; omega)
  go_enter Tryz.func86,Tryz.ntmps86
  go_wp2_with fail
  refine (hn _).mono ?_
  rintro e w2 ⟨rfl,xn⟩
  go_wp2
  go_ret
  exact ⟨by rw [HV.out]; rfl,av b0 xn⟩
 have f4:(s.toList == [109,105,115,115,101,100])=false:=bW h4
 by_cases h5:s=⟨#[98,117,115,105,101,115,116]⟩
 ·subst h5
  have HV:Hid ((dy x ⟨#[98,117,115,105,101,115,116]⟩).getD da=if dn x then bM (dM x) else da):=by unfold Hid dy; rw [if_neg dD,if_neg dD,if_neg dD,if_neg dD,if_neg dD,if_pos rfl]; split <;> rfl
  have hc:=fun W hW=>ka x W hW
  have hn:=fun W=>gQ (dM x) (dn x) W (fun _=>⟨vJ.1,by have:=(vJ (x:=x)).2; omega⟩)
  obtain ⟨T,hT⟩ : ∃ T,(if dn x=true then bM (dM x) else da)=T:=⟨_,rfl⟩
  rw [hT] at hn HV
  clear hT
  go_enter Tryz.func86,Tryz.ntmps86
  go_wp2_with fail
  refine (hc _ hW).mono ?_
  rintro e w1 ⟨rfl,xp⟩
  go_wp2_with fail
  refine (hn _).mono ?_
  rintro e w2 ⟨rfl,xn⟩
  go_wp2
  go_ret
  exact ⟨by rw [HV.out]; rfl,av b0 (av xp xn)⟩
 have f5:(s.toList == [98,117,115,105,101,115,116])=false:=bW h5
 have HV:Hid ((dy x s).getD da=da):=by unfold Hid dy; rw [if_neg h0,if_neg h1,if_neg h2,if_neg h3,if_neg h4,if_neg h5]; rfl
 clear h0 h1 h2 h3 h4 h5
 go_enter Tryz.func86,Tryz.ntmps86
 go_wp2
 go_ret
 exact ⟨by rw [HV.out]; rfl,b0⟩
theorem rG {x:aN} (G:bK x) (n:Int) (b:Bool):(bC b (aT (fun r:ae=>decide (r.p=n)) ae.k x.o)).length≤8∧∀ m ∈ bC b (aT (fun r:ae=>decide (r.p=n)) ae.k x.o),0≤m∧m≤1000000000:=by
 cases b
 ·exact ⟨by simp [bC],by simp [bC]⟩
 ·refine ⟨jT (mB _ _ _) G.ol,fun m hm=>?_⟩
  obtain ⟨r,hr,_,rfl⟩:=fW.1 (show m ∈ aT _ _ _ from hm)
  obtain ⟨j,hj,e⟩:=List.getElem_of_mem hr
  have h1:=eC G.tall (ae.bounds (G.oall j hj)).1
  rw [e] at h1; omega
theorem oG {x:aN} (G:bK x) (n:Int) (b:Bool):(bC b (aT (fun r:ae=>decide (r.k=n)) ae.p x.o)).length≤8∧∀ m ∈ bC b (aT (fun r:ae=>decide (r.k=n)) ae.p x.o),0≤m∧m≤1000000000:=by
 cases b
 ·exact ⟨by simp [bC],by simp [bC]⟩
 ·refine ⟨jT (mB _ _ _) G.ol,fun m hm=>?_⟩
  obtain ⟨r,hr,_,rfl⟩:=fW.1 (show m ∈ aT _ _ _ from hm)
  obtain ⟨j,hj,e⟩:=List.getElem_of_mem hr
  have h1:=(ae.bounds (G.oall j hj)).2.1
  rw [e] at h1; omega
theorem wT {w0 w:World} {B g:Nat} (b:Below B w0 w) (hB:B≤g) (a0 a1 a2 a3:Value):Below B w0 ((((w.setCell ⟨g,0,none⟩ a0).setCell ⟨g,1,none⟩ a1).setCell ⟨g,2,none⟩ a2).setCell ⟨g,3,none⟩ a3):=((((b).setCell (p:=⟨g,0,none⟩) hB a0).setCell (p:=⟨g,1,none⟩) hB a1).setCell (p:=⟨g,2,none⟩) hB a2).setCell (p:=⟨g,3,none⟩) hB a3
theorem xg {w:World} {g:Nat} {t:TypeId} {x0 x1 x2 x3:Value} {r:List Value} (hL:ai w g t (x0 :: x1 :: x2 :: x3 :: r)) (a0 a1 a2 a3:Value):ai ((((w.setCell ⟨g,0,none⟩ a0).setCell ⟨g,1,none⟩ a1).setCell ⟨g,2,none⟩ a2).setCell ⟨g,3,none⟩ a3) g t (a0 :: a1 :: a2 :: a3 :: r):=((((hL).set 0 a0).set 1 a1).set 2 a2).set 3 a3
theorem uG {w:World} {g:Nat} {t:TypeId} {x0 x1 x2 x3 x4:Value} {r:List Value} (hL:ai w g t (x0 :: x1 :: x2 :: x3 :: x4 :: r)) (a0 a1 a2 a3 a4:Value):ai (((((w.setCell ⟨g,0,none⟩ a0).setCell ⟨g,1,none⟩ a1).setCell ⟨g,2,none⟩ a2).setCell ⟨g,3,none⟩ a3).setCell ⟨g,4,none⟩ a4) g t (a0 :: a1 :: a2 :: a3 :: a4 :: r):=(((((hL).set 0 a0).set 1 a1).set 2 a2).set 3 a3).set 4 a4
theorem eW {w0 w:World} {B g:Nat} (b:Below B w0 w) (hB:B≤g) (a0 a1 a2 a3 a4 a5 a6 a7:Value):Below B w0 ((((((((w.setCell ⟨g,0,none⟩ a0).setCell ⟨g,1,none⟩ a1).setCell ⟨g,2,none⟩ a2).setCell ⟨g,3,none⟩ a3).setCell ⟨g,4,none⟩ a4).setCell ⟨g,5,none⟩ a5).setCell ⟨g,6,none⟩ a6).setCell ⟨g,7,none⟩ a7):=((((((((b).setCell (p:=⟨g,0,none⟩) hB a0).setCell (p:=⟨g,1,none⟩) hB a1).setCell (p:=⟨g,2,none⟩) hB a2).setCell (p:=⟨g,3,none⟩) hB a3).setCell (p:=⟨g,4,none⟩) hB a4).setCell (p:=⟨g,5,none⟩) hB a5).setCell (p:=⟨g,6,none⟩) hB a6).setCell (p:=⟨g,7,none⟩) hB a7
theorem ny {w:World} {g:Nat} {t:TypeId} {x0 x1 x2 x3 x4 x5 x6 x7:Value} {r:List Value} (hL:ai w g t (x0 :: x1 :: x2 :: x3 :: x4 :: x5 :: x6 :: x7 :: r)) (a0 a1 a2 a3 a4 a5 a6 a7:Value):ai ((((((((w.setCell ⟨g,0,none⟩ a0).setCell ⟨g,1,none⟩ a1).setCell ⟨g,2,none⟩ a2).setCell ⟨g,3,none⟩ a3).setCell ⟨g,4,none⟩ a4).setCell ⟨g,5,none⟩ a5).setCell ⟨g,6,none⟩ a6).setCell ⟨g,7,none⟩ a7) g t (a0 :: a1 :: a2 :: a3 :: a4 :: a5 :: a6 :: a7 :: r):=((((((((hL).set 0 a0).set 1 a1).set 2 a2).set 3 a3).set 4 a4).set 5 a5).set 6 a6).set 7 a7
set_option maxRecDepth 100000 in
theorem sR (x:aN) (l:Lg) (s:ByteArray) (n:Int) (w:World) (h:aQ w w.heap.size x) (G:bK x) :
  Calls xi 87 #[aK x l,xh s,O U n] w fun e w'=>e=.returned (.tuple #[aK x l,xh ((ia x s n).getD da)])∧Below w.heap.size w w':=by
 have L1:=(ai.new w 42 #[F x.TA x.t.length x.tc,F x.OA x.o.length x.oc,O U x.gt,O U x.sd,O U x.ms,xh l.D,xh l.P,O U l.n]).alloc (.cells #[F none 0 0,F none 0 0,O U 0,O U 0,O U 0,xh ⟨#[]⟩,xh ⟨#[]⟩,O U 0] 42)
 have L2:=ai.new1 w (.cells #[F x.TA x.t.length x.tc,F x.OA x.o.length x.oc,O U x.gt,O U x.sd,O U x.ms,xh l.D,xh l.P,O U l.n] 42) 42 #[F none 0 0,F none 0 0,O U 0,O U 0,O U 0,xh ⟨#[]⟩,xh ⟨#[]⟩,O U 0]
 have b1:=bZ w (.cells #[F x.TA x.t.length x.tc,F x.OA x.o.length x.oc,O U x.gt,O U x.sd,O U x.ms,xh l.D,xh l.P,O U l.n] 42)
 have b2:=b1.alloc b1.size (.cells #[F none 0 0,F none 0 0,O U 0,O U 0,O U 0,xh ⟨#[]⟩,xh ⟨#[]⟩,O U 0] 42)
 have hW:=h.up b2 nR
 have xR:w.heap.size≤w.heap.size+1:=oM
 clear b1 h
 by_cases h0:s=⟨#[97,116]⟩
 ·subst h0
  have HV:Hid ((ia x ⟨#[97,116]⟩ n).getD da=(lp x n).getD da):=by unfold Hid ia; rw [if_pos rfl]
  have BD:=rG G n (ap x && bX n 1 999)
  have hc:=fun W hW=>nw x n W hW
  have HT:Hid ((lp x n).getD da=if (ap x && bX n 1 999)=true then fC (bC (ap x && bX n 1 999) (aT (fun r:ae=>decide (r.p=n)) ae.k x.o)) else da):=by unfold Hid lp; split <;> rfl
  obtain ⟨ok,xq⟩ : ∃ b,(ap x && bX n 1 999)=b:=⟨_,rfl⟩
  obtain ⟨ns,zy⟩ : ∃ b,bC (ap x && bX n 1 999) (aT (fun r:ae=>decide (r.p=n)) ae.k x.o)=b:=⟨_,rfl⟩
  rw [zy] at BD hc HT
  rw [xq] at hc HT
  have hl:=fun W A c hR=>nh A c ns ok W hR BD.1 BD.2
  obtain ⟨T,hT⟩ : ∃ T,(if ok=true then fC ns else da)=T:=⟨_,rfl⟩
  rw [hT] at hl HT
  rw [HT.out] at HV
  clear xq zy hT HT BD
  go_enter Tryz.func87,Tryz.ntmps87
  go_wp2_with fail
  generalize ((w.alloc (.cells #[F x.TA x.t.length x.tc,F x.OA x.o.length x.oc,O U x.gt,O U x.sd,O U x.ms,xh l.D,xh l.P,O U l.n] 42)).alloc (.cells #[F none 0 0,F none 0 0,O U 0,O U 0,O U 0,xh ⟨#[]⟩,xh ⟨#[]⟩,O U 0] 42))=W at L1 L2 b2 hW ⊢
  refine (hc _ hW).mono ?_
  rintro e W1 ⟨A',c',rfl,hO,hb⟩
  have yV:=hO.reads
  have K1:=L1.below hb L1.lt
  have K2:=L2.below hb L2.lt
  have b3:=av b2 hb
  clear hO L1 L2
  go_wp2_with fail
  refine al (Sw 4 (fun W9=>Below W1.heap.size W1 W9) (fun W9=>Below w.heap.size w W9∧ai W9 (w.heap.size+1) 42 [F x.TA x.t.length x.tc,F x.OA x.o.length x.oc,O U x.gt,O U x.sd,O U x.ms,xh l.D,xh l.P,O U l.n])) (fun i w1 w2=>i ∉ [4]→Below w1.heap.size w1 w2) kZ kZ kZ (Sw.start jB.drew) ?_
  simp only [ax,Act.put,sA,gs0,gs1,Nat.zero_add,Nat.reduceAdd]
  refine aa _ (vb0C8 K1) ?_
  refine aa _ vb0 ?_
  refine aa _ vb0 ?_
  refine aa (xh T) (fun vs L9 w9 xl xj hB K9 xk=>?_) ?_
  next =>
   replace xj:=sb xj xl
   have d1:=fe hB 1
   have d2:=fe hB 2
   simp only [d1,d2] at xk ⊢
   go_simp
   refine (hl w9 A' c' (yV.then xj)).mono ?_
   rintro en w8 ⟨rfl,xm⟩
   exact xk _ _ rfl (Sw.stay xl kZ dD (xj.trans (xm.mono xj.size))) (fun _=>xm)
  refine aa (undef) (fun vs L9 w9 xl xj hB K9 xk=>?_) ?_
  next =>
   replace xj:=xj.here xl
   have d0:=fe hB 0
   simp only [d0] at xk ⊢
   have Lr:=K2.below xj K2.lt
   obtain ⟨z0,z1,z2,z3,z4,z5,z6,z7⟩:=cells8 Lr
   obtain ⟨f0,f1,f2,f3,f4,f5,f6,f7⟩:=frz8 Lr
   have xO:=jZ (show ai _ (w.heap.size+1) 42 [F x.TA x.t.length x.tc,F x.OA x.o.length x.oc,O U x.gt,O U x.sd,O U x.ms,xh l.D,xh l.P,O U l.n] from ny (Lr) (F x.TA x.t.length x.tc) (F x.OA x.o.length x.oc) (O U x.gt) (O U x.sd) (O U x.ms) (xh l.D) (xh l.P) (O U l.n))
   have yl:=jZ (eW (g:=(w.heap.size+1)) ((b3).trans (xj.mono (b3).size)) xR (F x.TA x.t.length x.tc) (F x.OA x.o.length x.oc) (O U x.gt) (O U x.sd) (O U x.ms) (xh l.D) (xh l.P) (O U l.n))
   clear Lr
   go_simp
   exact xk _ _ rfl (Sw.turn ⟨yl.out,xO.out⟩) nq
  refine aa _ (va1 3) ?_
  refine au fun vs L9 w9 xv xj hB=>?_
  replace xj:=xj.done xv dD
  have dl:=ah.eq (hB 5 _ rfl rfl dD)
  simp only [dl]
  clear hB dl
  obtain ⟨hD,hN⟩:=xj
  obtain ⟨k0,k1,k2,k3,k4,k5,k6,k7⟩:=cells8 hN
  clear hN
  go_wp2
  refine bodyPost_ret (v:=.tuple #[aK x l,xh T]) (by simp [results,Tryz.results87,go_sem, *]) rfl ⟨by rw [HV.out],hD⟩
 have f0:(s.toList == [97,116])=false:=bW h0
 by_cases h1:s=⟨#[119,105,116,104]⟩
 ·subst h1
  have HV:Hid ((ia x ⟨#[119,105,116,104]⟩ n).getD da=(iJ x n).getD da):=by unfold Hid ia; rw [if_neg dD,if_pos rfl]
  have BD:=oG G n (ap x && aS x.t n)
  have hc:=fun W hW=>kQ x n W hW
  have HT:Hid ((iJ x n).getD da=if (ap x && aS x.t n)=true then fC (bC (ap x && aS x.t n) (aT (fun r:ae=>decide (r.k=n)) ae.p x.o)) else da):=by unfold Hid iJ; split <;> rfl
  obtain ⟨ok,xq⟩ : ∃ b,(ap x && aS x.t n)=b:=⟨_,rfl⟩
  obtain ⟨ns,zy⟩ : ∃ b,bC (ap x && aS x.t n) (aT (fun r:ae=>decide (r.k=n)) ae.p x.o)=b:=⟨_,rfl⟩
  rw [zy] at BD hc HT
  rw [xq] at hc HT
  have hl:=fun W A c hR=>nh A c ns ok W hR BD.1 BD.2
  obtain ⟨T,hT⟩ : ∃ T,(if ok=true then fC ns else da)=T:=⟨_,rfl⟩
  rw [hT] at hl HT
  rw [HT.out] at HV
  clear xq zy hT HT BD
  go_enter Tryz.func87,Tryz.ntmps87
  go_wp2_with fail
  generalize ((w.alloc (.cells #[F x.TA x.t.length x.tc,F x.OA x.o.length x.oc,O U x.gt,O U x.sd,O U x.ms,xh l.D,xh l.P,O U l.n] 42)).alloc (.cells #[F none 0 0,F none 0 0,O U 0,O U 0,O U 0,xh ⟨#[]⟩,xh ⟨#[]⟩,O U 0] 42))=W at L1 L2 b2 hW ⊢
  refine (hc _ hW).mono ?_
  rintro e W1 ⟨A',c',rfl,hO,hb⟩
  have yV:=hO.reads
  have K1:=L1.below hb L1.lt
  have K2:=L2.below hb L2.lt
  have b3:=av b2 hb
  clear hO L1 L2
  go_wp2_with fail
  refine al (Sw 4 (fun W9=>Below W1.heap.size W1 W9) (fun W9=>Below w.heap.size w W9∧ai W9 (w.heap.size+1) 42 [F x.TA x.t.length x.tc,F x.OA x.o.length x.oc,O U x.gt,O U x.sd,O U x.ms,xh l.D,xh l.P,O U l.n])) (fun i w1 w2=>i ∉ [4]→Below w1.heap.size w1 w2) kZ kZ kZ (Sw.start jB.drew) ?_
  simp only [ax,Act.put,sA,gs0,gs1,Nat.zero_add,Nat.reduceAdd]
  refine aa _ (vb0C8 K1) ?_
  refine aa _ vb0 ?_
  refine aa _ vb0 ?_
  refine aa (xh T) (fun vs L9 w9 xl xj hB K9 xk=>?_) ?_
  next =>
   replace xj:=sb xj xl
   have d1:=fe hB 1
   have d2:=fe hB 2
   simp only [d1,d2] at xk ⊢
   go_simp
   refine (hl w9 A' c' (yV.then xj)).mono ?_
   rintro en w8 ⟨rfl,xm⟩
   exact xk _ _ rfl (Sw.stay xl kZ dD (xj.trans (xm.mono xj.size))) (fun _=>xm)
  refine aa (undef) (fun vs L9 w9 xl xj hB K9 xk=>?_) ?_
  next =>
   replace xj:=xj.here xl
   have d0:=fe hB 0
   simp only [d0] at xk ⊢
   have Lr:=K2.below xj K2.lt
   obtain ⟨z0,z1,z2,z3,z4,z5,z6,z7⟩:=cells8 Lr
   obtain ⟨f0,f1,f2,f3,f4,f5,f6,f7⟩:=frz8 Lr
   have xO:=jZ (show ai _ (w.heap.size+1) 42 [F x.TA x.t.length x.tc,F x.OA x.o.length x.oc,O U x.gt,O U x.sd,O U x.ms,xh l.D,xh l.P,O U l.n] from ny (Lr) (F x.TA x.t.length x.tc) (F x.OA x.o.length x.oc) (O U x.gt) (O U x.sd) (O U x.ms) (xh l.D) (xh l.P) (O U l.n))
   have yl:=jZ (eW (g:=(w.heap.size+1)) ((b3).trans (xj.mono (b3).size)) xR (F x.TA x.t.length x.tc) (F x.OA x.o.length x.oc) (O U x.gt) (O U x.sd) (O U x.ms) (xh l.D) (xh l.P) (O U l.n))
   clear Lr
   go_simp
   exact xk _ _ rfl (Sw.turn ⟨yl.out,xO.out⟩) nq
  refine aa _ (va1 3) ?_
  refine au fun vs L9 w9 xv xj hB=>?_
  replace xj:=xj.done xv dD
  have dl:=ah.eq (hB 5 _ rfl rfl dD)
  simp only [dl]
  clear hB dl
  obtain ⟨hD,hN⟩:=xj
  obtain ⟨k0,k1,k2,k3,k4,k5,k6,k7⟩:=cells8 hN
  clear hN
  go_wp2
  refine bodyPost_ret (v:=.tuple #[aK x l,xh T]) (by simp [results,Tryz.results87,go_sem, *]) rfl ⟨by rw [HV.out],hD⟩
 have f1:(s.toList == [119,105,116,104])=false:=bW h1
 by_cases h2:s=⟨#[116,101,120,116]⟩
 ·subst h2
  have HV:Hid ((ia x ⟨#[116,101,120,116]⟩ n).getD da=(kw x n).getD da):=by unfold Hid ia; rw [if_neg dD,if_neg dD,if_pos rfl]
  have hc:=fun W hW=>nf x n W hW
  obtain ⟨T,hT⟩ : ∃ T,(kw x n).getD da=T:=⟨_,rfl⟩
  rw [hT] at hc HV
  clear hT
  go_enter Tryz.func87,Tryz.ntmps87
  go_wp2_with fail
  generalize ((w.alloc (.cells #[F x.TA x.t.length x.tc,F x.OA x.o.length x.oc,O U x.gt,O U x.sd,O U x.ms,xh l.D,xh l.P,O U l.n] 42)).alloc (.cells #[F none 0 0,F none 0 0,O U 0,O U 0,O U 0,xh ⟨#[]⟩,xh ⟨#[]⟩,O U 0] 42))=W at L1 L2 b2 hW ⊢
  refine al (Sw 5 (fun W9=>Below W.heap.size W W9) (fun W9=>Below w.heap.size w W9∧ai W9 (w.heap.size+1) 42 [F x.TA x.t.length x.tc,F x.OA x.o.length x.oc,O U x.gt,O U x.sd,O U x.ms,xh l.D,xh l.P,O U l.n])) (fun i w1 w2=>i ∉ [5]→Below w1.heap.size w1 w2) kZ kZ kZ (Sw.start jB.drew) ?_
  simp only [ax,Act.put,sA,gs0,gs1,Nat.zero_add,Nat.reduceAdd]
  refine aa _ (vb0C8 L1) ?_
  refine aa _ vb0 ?_
  refine aa _ (vb1C5 1 L1) ?_
  refine aa _ vb0 ?_
  refine aa (xh T) (fun vs L9 w9 xl xj hB K9 xk=>?_) ?_
  next =>
   replace xj:=sb xj xl
   have d2:=fe hB 2
   have d3:=fe hB 3
   simp only [d2,d3] at xk ⊢
   go_simp
   refine (hc w9 (hW.then xj)).mono ?_
   rintro en w8 ⟨rfl,xm⟩
   exact xk _ _ rfl (Sw.stay xl kZ dD (xj.trans (xm.mono xj.size))) (fun _=>xm)
  refine aa (undef) (fun vs L9 w9 xl xj hB K9 xk=>?_) ?_
  next =>
   replace xj:=xj.here xl
   have d0:=fe hB 0
   simp only [d0] at xk ⊢
   have Lr:=L2.below xj L2.lt
   obtain ⟨z0,z1,z2,z3,z4,z5,z6,z7⟩:=cells8 Lr
   obtain ⟨f0,f1,f2,f3,f4,f5,f6,f7⟩:=frz8 Lr
   have xO:=jZ (show ai _ (w.heap.size+1) 42 [F x.TA x.t.length x.tc,F x.OA x.o.length x.oc,O U x.gt,O U x.sd,O U x.ms,xh l.D,xh l.P,O U l.n] from ny (Lr) (F x.TA x.t.length x.tc) (F x.OA x.o.length x.oc) (O U x.gt) (O U x.sd) (O U x.ms) (xh l.D) (xh l.P) (O U l.n))
   have yl:=jZ (eW (g:=(w.heap.size+1)) ((b2).trans (xj.mono (b2).size)) xR (F x.TA x.t.length x.tc) (F x.OA x.o.length x.oc) (O U x.gt) (O U x.sd) (O U x.ms) (xh l.D) (xh l.P) (O U l.n))
   clear Lr
   go_simp
   exact xk _ _ rfl (Sw.turn ⟨yl.out,xO.out⟩) nq
  refine aa _ (va1 4) ?_
  refine au fun vs L9 w9 xv xj hB=>?_
  replace xj:=xj.done xv dD
  have dl:=ah.eq (hB 6 _ rfl rfl dD)
  simp only [dl]
  clear hB dl
  obtain ⟨hD,hN⟩:=xj
  obtain ⟨k0,k1,k2,k3,k4,k5,k6,k7⟩:=cells8 hN
  clear hN
  go_wp2
  refine bodyPost_ret (v:=.tuple #[aK x l,xh T]) (by simp [results,Tryz.results87,go_sem, *]) rfl ⟨by rw [HV.out],hD⟩
 have f2:(s.toList == [116,101,120,116])=false:=bW h2
 have HV:Hid ((ia x s n).getD da=da):=by unfold Hid ia; rw [if_neg h0,if_neg h1,if_neg h2]; rfl
 clear h0 h1 h2
 go_enter Tryz.func87,Tryz.ntmps87
 go_upto_region 10 with fail
 generalize ((w.alloc (.cells #[F x.TA x.t.length x.tc,F x.OA x.o.length x.oc,O U x.gt,O U x.sd,O U x.ms,xh l.D,xh l.P,O U l.n] 42)).alloc (.cells #[F none 0 0,F none 0 0,O U 0,O U 0,O U 0,xh ⟨#[]⟩,xh ⟨#[]⟩,O U 0] 42))=W at L1 L2 b2 hW ⊢
 obtain ⟨c0,c1,c2,c3,c4,c5,c6,c7⟩:=cells8 L1
 obtain ⟨z0,z1,z2,z3,z4,z5,z6,z7⟩:=cells8 L2
 obtain ⟨f0,f1,f2,f3,f4,f5,f6,f7⟩:=frz8 L2
 have bz:=jZ (eW (g:=w.heap.size+1) (b2) xR (F x.TA x.t.length x.tc) (F x.OA x.o.length x.oc) (O U x.gt) (O U x.sd) (O U x.ms) (xh l.D) (xh l.P) (O U l.n))
 clear L1 L2 b2 hW
 go_wp2
 refine bodyPost_ret (v:=.tuple #[aK x l,xh ⟨#[63]⟩]) (by simp [results,Tryz.results87,go_sem, *]) rfl ⟨by rw [HV.out]; rfl,bz.out⟩
theorem pj (A:Option Addr) (c:Nat) (l:List ar) (w:World) (h:fE w w.heap.size A l) (hn:l.length≤1048576) :
  Calls xi 147 #[F A l.length c] w fun e w'=>∃ A' c',e=.returned (F A' l.length c')∧w'.ownsRow w.heap.size 104 2 (F A' l.length c') l.length (l.flatMap ar.enc)∧Below w.heap.size w w':=by
 rcases A with _ | ad
 ·have h0:l.length=0:=by
   rcases Nat.eq_zero_or_pos l.length with h0 | h0
   ·exact h0
   ·obtain ⟨_,_,h1,_⟩:=h.at_ h0; cases h1
  obtain rfl:l = []:=List.eq_nil_of_length_eq_zero h0
  have hq:=fun W=>Lib.run_eql_slice_nil (P:=xi) W 37 104 none 0 c 0 0 Tryz.underlying37
  go_enter Tryz.func147,Tryz.ntmps147
  go_wp2_with fail
  go_ret
  exact ⟨none,0,rfl,⟨sP,.inl ⟨rfl,rfl⟩⟩,Below.refl _ _⟩
 ·have HO:Hid ((w.alloc (.cells #[] 104)).ownsRow w.heap.size 104 2 (F (some ⟨w.heap.size,0,none⟩) 0 0) 0 []):=dI (ai.new w 104 #[]) nR
  have b1:=bZ w (.cells #[] 104)
  have HR:=jZ (bi.below h b1)
  have hq:=fun W=>Lib.run_eql_slice_nil (P:=xi) W 37 104 (some ad) l.length c 0 0 Tryz.underlying37
  go_enter Tryz.func147,Tryz.ntmps147
  go_wp2_with (at_builtin; refine iz rfl _ _ 37 rfl 104 _ 2 16 Tryz.underlying37 dO rfl (by omega) (by omega) w.heap.size _ 0 [] rfl HO w.heap.size (some ad) l.length c (l.flatMap ar.enc) rfl HR eJ (by omega) b1.size ?_; intro v' w1 xH _ xn _)
  go_ret
  have ho:=xH.out
  rw [Nat.zero_add,List.nil_append] at ho
  obtain ⟨A',c',rfl⟩:=az ho
  exact ⟨A',c',rfl,ho,b1.trans xn⟩
theorem nz (A:Option Addr) (c:Nat) (l:List ae) (w:World) (h:ee w w.heap.size A l) (hn:l.length≤1048576) :
  Calls xi 148 #[F A l.length c] w fun e w'=>∃ A' c',e=.returned (F A' l.length c')∧w'.ownsRow w.heap.size 147 3 (F A' l.length c') l.length (l.flatMap ae.enc)∧Below w.heap.size w w':=by
 rcases A with _ | ad
 ·have h0:l.length=0:=by
   rcases Nat.eq_zero_or_pos l.length with h0 | h0
   ·exact h0
   ·obtain ⟨_,_,h1,_⟩:=h.at_ h0; cases h1
  obtain rfl:l = []:=List.eq_nil_of_length_eq_zero h0
  have hq:=fun W=>Lib.run_eql_slice_nil (P:=xi) W 38 147 none 0 c 0 0 Tryz.underlying38
  go_enter Tryz.func148,Tryz.ntmps148
  go_wp2_with fail
  go_ret
  exact ⟨none,0,rfl,⟨sP,.inl ⟨rfl,rfl⟩⟩,Below.refl _ _⟩
 ·have HO:Hid ((w.alloc (.cells #[] 147)).ownsRow w.heap.size 147 3 (F (some ⟨w.heap.size,0,none⟩) 0 0) 0 []):=dI (ai.new w 147 #[]) nR
  have b1:=bZ w (.cells #[] 147)
  have HR:=jZ (bi.below h b1)
  have hq:=fun W=>Lib.run_eql_slice_nil (P:=xi) W 38 147 (some ad) l.length c 0 0 Tryz.underlying38
  go_enter Tryz.func148,Tryz.ntmps148
  go_wp2_with (at_builtin; refine iz rfl _ _ 38 rfl 147 _ 3 24 Tryz.underlying38 ew rfl (by omega) (by omega) w.heap.size _ 0 [] rfl HO w.heap.size (some ad) l.length c (l.flatMap ae.enc) rfl HR fw (by omega) b1.size ?_; intro v' w1 xH _ xn _)
  go_ret
  have ho:=xH.out
  rw [Nat.zero_add,List.nil_append] at ho
  obtain ⟨A',c',rfl⟩:=az ho
  exact ⟨A',c',rfl,ho,b1.trans xn⟩
set_option maxRecDepth 100000 in
theorem oH (x:aN) (g:Nat) (w:World) (h:cu w w.heap.size g x) (tl:x.t.length≤1048576) (ol:x.o.length≤1048576) :
  Calls xi 93 #[.pointer (some ⟨g,0,none⟩)] w fun e w'=>∃ TA tc OA oc,e=.returned (aN.val (x.c.at TA tc OA oc))∧w'.ownsRow w.heap.size 104 2 (F TA x.t.length tc) x.t.length (x.t.flatMap ar.enc)∧w'.ownsRow w.heap.size 147 3 (F OA x.o.length oc) x.o.length (x.o.flatMap ae.enc)∧Below w.heap.size w w':=by
 have b1:=bZ w (.cells #[F none 0 0,F none 0 0,O U 0,O U 0,O U 0] 40)
 have L1:=ai.new w 40 #[F none 0 0,F none 0 0,O U 0,O U 0,O U 0]
 have hA:=h.then b1 b1.size
 go_enter Tryz.func93,Tryz.ntmps93
 go_wp2
 generalize w.alloc (.cells #[F none 0 0,F none 0 0,O U 0,O U 0,O U 0] 40)=W at b1 L1 hA ⊢
 have cT:∀ W',Below W.heap.size W W'→Calls xi 147 #[F x.TA x.t.length x.tc] W' (fun e w'=>∃ A c,e=.returned (F A x.t.length c)∧w'.ownsRow w.heap.size 104 2 (F A x.t.length c) x.t.length (x.t.flatMap ar.enc)∧Below W'.heap.size W' w'∧Below W.heap.size W w'):=fun W' hb =>
  (pj x.TA x.tc x.t W' (hA.r.up hb nR).ts tl).mono fun e w' ⟨A,c,he,ho,hb'⟩=>⟨A,c,he,ag ho (jT b1.size hb.size),hb',av hb hb'⟩
 have cO:∀ W',Below W.heap.size W W'→Calls xi 148 #[F x.OA x.o.length x.oc] W' (fun e w'=>∃ A c,e=.returned (F A x.o.length c)∧w'.ownsRow w.heap.size 147 3 (F A x.o.length c) x.o.length (x.o.flatMap ae.enc)∧Below W'.heap.size W' w'∧Below W.heap.size W w'):=fun W' hb =>
  (nz x.OA x.oc x.o W' (hA.r.up hb nR).os ol).mono fun e w' ⟨A,c,he,ho,hb'⟩=>⟨A,c,he,ag ho (jT b1.size hb.size),hb',av hb hb'⟩
 have GE:∀ W',Below w.heap.size w W'→(Below w.heap.size w W'∧W'.cell? ⟨g,0,none⟩=some (F x.TA x.t.length x.tc)∧W'.cell? ⟨g,1,none⟩=some (F x.OA x.o.length x.oc)∧W'.cell? ⟨g,2,none⟩=some (O U x.gt)∧W'.cell? ⟨g,3,none⟩=some (O U x.sd)∧W'.cell? ⟨g,4,none⟩=some (O U x.ms)):=fun W' hb =>
  ⟨hb,h.s.c0 ⟨W',hb⟩,h.s.c1 ⟨W',hb⟩,h.s.c2 ⟨W',hb⟩,h.s.c3 ⟨W',hb⟩,h.s.c4 ⟨W',hb⟩⟩
 have HK:∀ W',Below W.heap.size W W'→(Below w.heap.size w W'∧W'.cell? ⟨g,0,none⟩=some (F x.TA x.t.length x.tc)∧W'.cell? ⟨g,1,none⟩=some (F x.OA x.o.length x.oc)∧W'.cell? ⟨g,2,none⟩=some (O U x.gt)∧W'.cell? ⟨g,3,none⟩=some (O U x.sd)∧W'.cell? ⟨g,4,none⟩=some (O U x.ms)):=fun W' hb=>GE W' (b1.trans (hb.mono b1.size))
 have GF:∀ W' (u0 u1 u2 u3 u4:Value),Below W.heap.size W W'→(Below w.heap.size w (((((W'.setCell ⟨w.heap.size,0,none⟩ u0).setCell ⟨w.heap.size,1,none⟩ u1).setCell ⟨w.heap.size,2,none⟩ u2).setCell ⟨w.heap.size,3,none⟩ u3).setCell ⟨w.heap.size,4,none⟩ u4)∧(((((W'.setCell ⟨w.heap.size,0,none⟩ u0).setCell ⟨w.heap.size,1,none⟩ u1).setCell ⟨w.heap.size,2,none⟩ u2).setCell ⟨w.heap.size,3,none⟩ u3).setCell ⟨w.heap.size,4,none⟩ u4).cell? ⟨g,0,none⟩=some (F x.TA x.t.length x.tc)∧(((((W'.setCell ⟨w.heap.size,0,none⟩ u0).setCell ⟨w.heap.size,1,none⟩ u1).setCell ⟨w.heap.size,2,none⟩ u2).setCell ⟨w.heap.size,3,none⟩ u3).setCell ⟨w.heap.size,4,none⟩ u4).cell? ⟨g,1,none⟩=some (F x.OA x.o.length x.oc)∧(((((W'.setCell ⟨w.heap.size,0,none⟩ u0).setCell ⟨w.heap.size,1,none⟩ u1).setCell ⟨w.heap.size,2,none⟩ u2).setCell ⟨w.heap.size,3,none⟩ u3).setCell ⟨w.heap.size,4,none⟩ u4).cell? ⟨g,2,none⟩=some (O U x.gt)∧(((((W'.setCell ⟨w.heap.size,0,none⟩ u0).setCell ⟨w.heap.size,1,none⟩ u1).setCell ⟨w.heap.size,2,none⟩ u2).setCell ⟨w.heap.size,3,none⟩ u3).setCell ⟨w.heap.size,4,none⟩ u4).cell? ⟨g,3,none⟩=some (O U x.sd)∧(((((W'.setCell ⟨w.heap.size,0,none⟩ u0).setCell ⟨w.heap.size,1,none⟩ u1).setCell ⟨w.heap.size,2,none⟩ u2).setCell ⟨w.heap.size,3,none⟩ u3).setCell ⟨w.heap.size,4,none⟩ u4).cell? ⟨g,4,none⟩=some (O U x.ms)):=fun W' u0 u1 u2 u3 u4 hb=>GE _ ((b1.trans (hb.mono b1.size)).grown (ab (ab (ab (ab (ab (World.grownBy.refl W' (some w.heap.size))))))) (jT b1.size hb.size) (by rintro _ ⟨⟩; exact Nat.le_refl _))
 have HZ:∀ W',Below W.heap.size W W'→(W'.cell? ⟨w.heap.size,0,none⟩=some (F none 0 0)∧W'.cell? ⟨w.heap.size,1,none⟩=some (F none 0 0)∧W'.cell? ⟨w.heap.size,2,none⟩=some (O U 0)∧W'.cell? ⟨w.heap.size,3,none⟩=some (O U 0)∧W'.cell? ⟨w.heap.size,4,none⟩=some (O U 0) ∧
   W'.frozen? ⟨w.heap.size,0,none⟩=false∧W'.frozen? ⟨w.heap.size,1,none⟩=false∧W'.frozen? ⟨w.heap.size,2,none⟩=false∧W'.frozen? ⟨w.heap.size,3,none⟩=false∧W'.frozen? ⟨w.heap.size,4,none⟩=false):=fun W' hb =>
  have L:=L1.below hb L1.lt
  ⟨L.cell 0,L.cell 1,L.cell 2,L.cell 3,L.cell 4,L.frozen 0,L.frozen 1,L.frozen 2,L.frozen 3,L.frozen 4⟩
 have Cy:=jZ L1; clear L1
 have GH:=jZ b1; clear b1
 clear hA h
 go_region_held3 (fun W'=>(Below w.heap.size w W'∧W'.cell? ⟨g,0,none⟩=some (F x.TA x.t.length x.tc)∧W'.cell? ⟨g,1,none⟩=some (F x.OA x.o.length x.oc)∧W'.cell? ⟨g,2,none⟩=some (O U x.gt)∧W'.cell? ⟨g,3,none⟩=some (O U x.sd)∧W'.cell? ⟨g,4,none⟩=some (O U x.ms))) (first | exact HK _ jB.drew | exact HK _ hb9 | exact HK _ xm | exact GF _ _ _ _ _ _ hb9 | exact GF _ _ _ _ _ _ xm) (first | (go_at_call 147; (first | (refine (cT _ jB.drew).mono ?_) | (refine (cT _ hb9).mono ?_)); rintro e w8 ⟨A8,c8,rfl,Dk,MD,xm⟩; obtain ⟨z0,z1,z2,z3,z4,f0,f1,f2,f3,f4⟩:=HZ _ xm) | (go_at_call 148; (first | (refine (cO _ jB.drew).mono ?_) | (refine (cO _ xm).mono ?_)); rintro e w9 ⟨A9,c9,rfl,GI,Eh,hb9⟩; obtain ⟨y0,y1,y2,y3,y4,g0,g1,g2,g3,g4⟩:=HZ _ hb9))
 have xv:ai w9 w.heap.size 40 [F none 0 0,F none 0 0,O U 0,O U 0,O U 0]:=Cy.out.below hb9 Cy.out.lt
 have e0:=(((((xv.set 0 (F A8 x.t.length c8)).set 1 (F A9 x.o.length c9)).set 2 (O U x.gt)).set 3 (O U x.sd)).set 4 (O U x.ms))
 have xC:=ab (g:=w.heap.size) (i:=4) (u:=O U x.ms) (gw4 w9 w.heap.size (F A8 x.t.length c8) (F A9 x.o.length c9) (O U x.gt) (O U x.sd))
 have r8:=ak (ac Dk Eh) xv fB xC
 have r9:=ak GI xv fj xC
 have b9:Below w.heap.size w w9:=GH.out.trans (hb9.mono GH.out.size)
 have b10:=b9.grown xC b9.size (by rintro _ ⟨⟩; exact Nat.le_refl _)
 generalize (((((w9.setCell ⟨w.heap.size,0,none⟩ (F A8 x.t.length c8)).setCell ⟨w.heap.size,1,none⟩ (F A9 x.o.length c9)).setCell ⟨w.heap.size,2,none⟩ (O U x.gt)).setCell ⟨w.heap.size,3,none⟩ (O U x.sd)).setCell ⟨w.heap.size,4,none⟩ (O U x.ms))=W10 at e0 xC r8 r9 b10 ⊢
 simp only [List.set_cons_zero,List.set_cons_succ] at e0
 obtain ⟨k0,k1,k2,k3,k4⟩:=cells5 e0
 have R8:=jZ r8; clear r8
 have R9:=jZ r9; clear r9
 clear z0 z1 z2 z3 z4 f0 f1 f2 f3 f4 y0 y1 y2 y3 y4 g0 g1 g2 g3 g4 Dk GI xC
 go_wp2
 refine bodyPost_ret (v:=aN.val (x.c.at A8 c8 A9 c9)) (by simp [results,Tryz.results93,go_sem,Oc.at,aN.c, *]) rfl ⟨A8,c8,A9,c9,rfl,R8.out,R9.out,b10⟩
theorem ni {P:Program} {ops:Array Oper} {tm:Array Value} {o:Oper} {a:Act} {w:World} {K:Act→World→Prop} {Q:Exit→Act→World→Prop} {E:Prop}
  (hg:o.guard=none) (s x:Operand) (t:TypeId) (ho:o.op=.call { callee:=.builtin .append,args:=#[s,x],argTypes:=#[t,t] })
  (e:TypeId) (z:Value) (k bytes:Nat) (ht:P.underlying t=some (.slice e)) (hinfo:(P.info? e).map (fun i=>(i.zero,i.size,i.bytes))=some (some z,k,bytes)) (yM:z.cells.size=k) (xY:0 < k) (Be:bytes≤1000)
  (B g:Nat) (hs:a.eval s=F (some ⟨g,0,none⟩) 0 0) (hL:ai w g e []) (hB:B≤g)
  (S:Nat) (A:Option Addr) (m c:Nat) (cs:List Value) (hx:a.eval x=F A m c) (hr:bi w S k A m cs) (h1:∀ u ∈ cs,u.oneCell'=true) (hm:m≤1048576)
  (h:∀ v' w',w'.ownsRow B e k v' m cs→Below w.heap.size w w'→K (a.put o.dst v') w'):if Region.wanted o (yielded ops tm)=true then o.wp P a w K Q else E:=by
 have hw:∀ tm:Array Value,Region.wanted o (yielded ops tm)=true:=fun tm=>by simp [Region.wanted,hg]
 rw [if_pos (hw _)]
 obtain ⟨i,hi,hz,hs',hb⟩:=info_parts hinfo
 have hbytes:(0+m) * bytes≤140737488355328:=by have:=Nat.mul_le_mul (show 0+m≤1048576 by omega) Be; omega
 have xu:=hL.lt
 rcases Nat.eq_zero_or_pos m with h0 | h0
 ·subst h0
  have hc0:cs = []:=List.eq_nil_of_length_eq_zero (by simpa using hr.len)
  subst hc0
  have xH:w.ownsRow B e k (F (some ⟨g,0,none⟩) 0 0) 0 []:=dI hL hB
  have xZ:(Builtin.append_ #[t,t] o.type #[F (some ⟨g,0,none⟩) 0 0,F A 0 c]).run P w=.ok (F (some ⟨g,0,none⟩) 0 0) w:=by
   rcases A with _ | ad
   ·exact iV w B t o.type e i k ht hi _ 0 [] xH c
   ·simp [Builtin.append_,run_underlying ht,sizeOf,typeInfo,hi,Builtin.lenOf,Builtin.firstCells,loadCells,loadCellsFrom,storeCells]
  unfold Oper.wp execOp
  simp only [ho,resolve,invoke,builtin,Sem.run_bind,Sem.run_pure,Result.andThen_ok,List.map_toArray,List.map_cons,List.map_nil,hs,hx,xZ]
  exact h _ _ xH jB
 ·obtain ⟨b,off,rfl,hlt',hcell⟩:=hr.at_ h0
  have key:=step_append_grows (P:=P) (ops:=ops) (a:=a) (w:=w) (K:=K) (Q:=Q) (E:=E) hg s x t ho e i z k bytes ht hi hz hs' hb yM xY (some ⟨g,0,none⟩) 0 0 [] hs sP sP sP ⟨b,off,none⟩ m c cs hx hr.len (fun j u hu=>by rw [cP]; exact hcell j u hu) h1 oM (by unfold maxLen; omega) hbytes (fun v' w' h2 h3=>by
   rw [Nat.zero_add,List.nil_append] at h2
   exact h v' w' (ag h2 oM) (jB.grown h3 nR (fun j hj=>by cases hj)))
  rw [if_pos (hw _)] at key
  exact key
set_option maxRecDepth 100000 in
theorem sS (x:aN) (w:World) (h:aQ w w.heap.size x) (tl:x.t.length≤1048576) (ol:x.o.length≤1048576) :
  Calls xi 81 #[x.val] w (ej w x.c):=by
 have L1:=(ai.new w 40 #[F x.TA x.t.length x.tc,F x.OA x.o.length x.oc,O U x.gt,O U x.sd,O U x.ms]).alloc (.cells #[F none 0 0,F none 0 0,O U 0,O U 0,O U 0] 40)
 have L2:=ai.new1 w (.cells #[F x.TA x.t.length x.tc,F x.OA x.o.length x.oc,O U x.gt,O U x.sd,O U x.ms] 40) 40 #[F none 0 0,F none 0 0,O U 0,O U 0,O U 0]
 have b1:=bZ w (.cells #[F x.TA x.t.length x.tc,F x.OA x.o.length x.oc,O U x.gt,O U x.sd,O U x.ms] 40)
 have b2:=b1.alloc b1.size (.cells #[F none 0 0,F none 0 0,O U 0,O U 0,O U 0] 40)
 clear b1
 go_enter Tryz.func81,Tryz.ntmps81
 go_wp2_with fail
 generalize ((w.alloc (.cells #[F x.TA x.t.length x.tc,F x.OA x.o.length x.oc,O U x.gt,O U x.sd,O U x.ms] 40)).alloc (.cells #[F none 0 0,F none 0 0,O U 0,O U 0,O U 0] 40))=W at L1 L2 b2 ⊢
 have hR:=h.up b2 nR
 have hT:=hR.ts
 have hO:=hR.os
 have l1:=L1.lt
 have l2:=L2.lt
 clear h hR
 refine fx (fun W9=>Below W.heap.size W W9) (fun w1 w2=>Below w1.heap.size w1 w2) kZ kZ kZ kZ jB.drew ?_
 simp only [ax,Act.put,sA,gs0,gs1,Nat.zero_add,Nat.reduceAdd]
 refine cH (fun v w9=>∃ g,v=F (some ⟨g,0,none⟩) 0 0∧w.heap.size≤g∧ai w9 g 104 []) (fun v w1 w2 hv y9=>by obtain ⟨g,e,hg,hl⟩:=hv; exact ⟨g,e,hg,hl.below y9 hl.lt⟩) (fun vs w9 xj hB K9 xk=>?_) ?_
 ·go_simp
  exact xk _ _ _ rfl ⟨_,rfl,jT b2.size xj.size,ai.new w9 104 #[]⟩ (xj.alloc xj.size _) (jB.alloc nR _)
 refine aG (.pointer (some ⟨w.heap.size,0,none⟩)) (fun vs w9 xj hB K9 xk=>?_) ?_
 ·go_simp
  exact xk _ _ rfl xj jB
 refine aG (F x.TA x.t.length x.tc) (fun vs w9 xj hB K9 xk=>?_) ?_
 ·have hd:=hB 1 _ kZ rfl
  simp only [hd] at xk ⊢
  have q1:w9.cell? ⟨w.heap.size,0,none⟩=some (F x.TA x.t.length x.tc):=(L1.below xj L1.lt).cell 0
  go_simp
  exact xk _ _ rfl xj jB
 refine cH (fun v w9=>∃ A c,v=F A x.t.length c∧w9.ownsRow w.heap.size 104 2 (F A x.t.length c) x.t.length (x.t.flatMap ar.enc)) (fun v w1 w2 hv y9=>by obtain ⟨A,c,e,ho⟩:=hv; exact ⟨A,c,e,ac ho y9⟩) (fun vs w9 xj hB K9 xk=>?_) ?_
 ·obtain ⟨g,e0,hg,hl⟩:=hB 0 _ kZ rfl
  have hd:=hB 2 _ kZ rfl
  simp only [e0,hd] at xk ⊢
  refine ni rfl (.tmp 3) (.tmp 5) 37 rfl 104 _ 2 16 Tryz.underlying37 dO rfl oM oM w.heap.size g (by rfl) hl hg W.heap.size x.TA x.t.length x.tc (x.t.flatMap ar.enc) (by rfl) (bi.below hT xj) eJ tl ?_
  intro v' w' ho hb
  obtain ⟨A',c',rfl⟩:=az ho
  exact xk _ _ _ rfl ⟨A',c',rfl,ho⟩ (xj.trans (hb.mono xj.size)) hb
 refine cH (fun v w9=>∃ g,v=F (some ⟨g,0,none⟩) 0 0∧w.heap.size≤g∧ai w9 g 147 []) (fun v w1 w2 hv y9=>by obtain ⟨g,e,hg,hl⟩:=hv; exact ⟨g,e,hg,hl.below y9 hl.lt⟩) (fun vs w9 xj hB K9 xk=>?_) ?_
 ·go_simp
  exact xk _ _ _ rfl ⟨_,rfl,jT b2.size xj.size,ai.new w9 147 #[]⟩ (xj.alloc xj.size _) (jB.alloc nR _)
 refine aG (.pointer (some ⟨w.heap.size,1,none⟩)) (fun vs w9 xj hB K9 xk=>?_) ?_
 ·go_simp
  exact xk _ _ rfl xj jB
 refine aG (F x.OA x.o.length x.oc) (fun vs w9 xj hB K9 xk=>?_) ?_
 ·have hd:=hB 5 _ kZ rfl
  simp only [hd] at xk ⊢
  have q1:w9.cell? ⟨w.heap.size,1,none⟩=some (F x.OA x.o.length x.oc):=(L1.below xj L1.lt).cell 1
  go_simp
  exact xk _ _ rfl xj jB
 refine cH (fun v w9=>∃ A c,v=F A x.o.length c∧w9.ownsRow w.heap.size 147 3 (F A x.o.length c) x.o.length (x.o.flatMap ae.enc)) (fun v w1 w2 hv y9=>by obtain ⟨A,c,e,ho⟩:=hv; exact ⟨A,c,e,ac ho y9⟩) (fun vs w9 xj hB K9 xk=>?_) ?_
 ·obtain ⟨g,e0,hg,hl⟩:=hB 4 _ kZ rfl
  have hd:=hB 6 _ kZ rfl
  simp only [e0,hd] at xk ⊢
  refine ni rfl (.tmp 7) (.tmp 9) 38 rfl 147 _ 3 24 Tryz.underlying38 ew rfl oM oM w.heap.size g (by rfl) hl hg W.heap.size x.OA x.o.length x.oc (x.o.flatMap ae.enc) (by rfl) (bi.below hO xj) fw ol ?_
  intro v' w' ho hb
  obtain ⟨A',c',rfl⟩:=az ho
  exact xk _ _ _ rfl ⟨A',c',rfl,ho⟩ (xj.trans (hb.mono xj.size)) hb
 refine aG (.pointer (some ⟨w.heap.size,2,none⟩)) (fun vs w9 xj hB K9 xk=>?_) ?_
 ·go_simp
  exact xk _ _ rfl xj jB
 refine aG (O U x.gt) (fun vs w9 xj hB K9 xk=>?_) ?_
 ·have hd:=hB 8 _ kZ rfl
  simp only [hd] at xk ⊢
  have q1:w9.cell? ⟨w.heap.size,2,none⟩=some (O U x.gt):=(L1.below xj L1.lt).cell 2
  go_simp
  exact xk _ _ rfl xj jB
 refine aG (.pointer (some ⟨w.heap.size,3,none⟩)) (fun vs w9 xj hB K9 xk=>?_) ?_
 ·go_simp
  exact xk _ _ rfl xj jB
 refine aG (O U x.sd) (fun vs w9 xj hB K9 xk=>?_) ?_
 ·have hd:=hB 10 _ kZ rfl
  simp only [hd] at xk ⊢
  have q1:w9.cell? ⟨w.heap.size,3,none⟩=some (O U x.sd):=(L1.below xj L1.lt).cell 3
  go_simp
  exact xk _ _ rfl xj jB
 refine aG (.pointer (some ⟨w.heap.size,4,none⟩)) (fun vs w9 xj hB K9 xk=>?_) ?_
 ·go_simp
  exact xk _ _ rfl xj jB
 refine aG (O U x.ms) (fun vs w9 xj hB K9 xk=>?_) ?_
 ·have hd:=hB 12 _ kZ rfl
  simp only [hd] at xk ⊢
  have q1:w9.cell? ⟨w.heap.size,4,none⟩=some (O U x.ms):=(L1.below xj L1.lt).cell 4
  go_simp
  exact xk _ _ rfl xj jB
 refine cH (fun v w9=>∃ A c A' c',v=.agg #[F A x.t.length c,F A' x.o.length c',O U x.gt,O U x.sd,O U x.ms]∧w9.ownsRow w.heap.size 104 2 (F A x.t.length c) x.t.length (x.t.flatMap ar.enc)∧w9.ownsRow w.heap.size 147 3 (F A' x.o.length c') x.o.length (x.o.flatMap ae.enc))
  (fun v w1 w2 hv y9=>by obtain ⟨A,c,A',c',e,ho,hp⟩:=hv; exact ⟨A,c,A',c',e,ac ho y9,ac hp y9⟩) (fun vs w9 xj hB K9 xk=>?_) ?_
 ·obtain ⟨A,c,e3,ho⟩:=hB 3 _ kZ rfl
  obtain ⟨A',c',e7,hp⟩:=hB 7 _ kZ rfl
  have d9:=hB 9 _ kZ rfl
  have d11:=hB 11 _ kZ rfl
  have d13:=hB 13 _ kZ rfl
  have ho:=jZ ho
  have hp:=jZ hp
  simp only [e3,e7,d9,d11,d13] at xk ⊢
  go_simp
  exact xk _ _ _ rfl ⟨A,c,A',c',rfl,ho.out,hp.out⟩ xj jB
 refine gM (fun vs w9 xj hB K9 xk=>?_)
 obtain ⟨A,c,A',c',e14,ho,hp⟩:=hB 14 _ rfl
 simp only [e14] at xk ⊢
 have xx:=L2.below xj L2.lt
 have z0:=xx.cell 0
 have z1:=xx.cell 1
 have z2:=xx.cell 2
 have z3:=xx.cell 3
 have z4:=xx.cell 4
 obtain ⟨f0,f1,f2,f3,f4⟩:=frz5 xx
 simp only [gz0,gz1] at z0 z1 z2 z3 z4
 have xC:=(gw5 w9 (w.heap.size+1) (F A x.t.length c) (F A' x.o.length c') (O U x.gt) (O U x.sd) (O U x.ms))
 have bw:=b2.trans (xj.mono b2.size)
 have bz:=bw.grown xC bw.size (by rintro _ ⟨⟩; omega)
 have R8:=jZ (ak ho xx cd xC)
 have R9:=jZ (ak hp xx ch xC)
 clear xC ho hp hB xx
 go_simp
 refine xk _ _ ?_
 clear xk K9
 go_wp2
 refine bodyPost_ret (v:=.agg #[F A x.t.length c,F A' x.o.length c',O U x.gt,O U x.sd,O U x.ms]) (by simp [results,Tryz.results81,go_sem, *]) rfl ?_
 exact ⟨A,c,A',c',rfl,R8.out,R9.out,bz⟩
def gX (w:World) (B:Nat) (y:Oc) (l:Lg) (v:Value):Prop :=
 ∃ TA tc OA oc,v=.agg #[F TA y.t.length tc,F OA y.o.length oc,O U y.gt,O U y.sd,O U y.ms,xh l.D,xh l.P,O U l.n]∧w.ownsRow B 104 2 (F TA y.t.length tc) y.t.length (y.t.flatMap ar.enc)∧w.ownsRow B 147 3 (F OA y.o.length oc) y.o.length (y.o.flatMap ae.enc)
def vK (w:World) (y:Oc) (l:Lg) (e:Ending) (w' : World):Prop:=∃ v,e=.returned v∧gX w' w.heap.size y l v∧Below w.heap.size w w'
theorem gX.below {w w' : World} {B:Nat} {y:Oc} {l:Lg} {v:Value} (h:gX w B y l v) (hb:Below w.heap.size w w'):gX w' B y l v:=by
 obtain ⟨TA,tc,OA,oc,e,h1,h2⟩:=h
 exact ⟨TA,tc,OA,oc,e,ac h1 hb,ac h2 hb⟩
theorem gX.lower {w:World} {B B' : Nat} {y:Oc} {l:Lg} {v:Value} (h:gX w B y l v) (hB:B'≤B):gX w B' y l v:=by
 obtain ⟨TA,tc,OA,oc,e,h1,h2⟩:=h
 exact ⟨TA,tc,OA,oc,e,ag h1 hB,ag h2 hB⟩
theorem gX.as {w:World} {B:Nat} {y:Oc} {l:Lg} {v:Value} (h:gX w B y l v):∃ X:aN,v=aK X l∧X.c=y∧aQ w w.heap.size X∧X.t.length≤X.tc:=by
 obtain ⟨TA,tc,OA,oc,e,h1,h2⟩:=h
 exact ⟨y.at TA tc OA oc,e,rfl,⟨an h1,an h2⟩,iW h1⟩
theorem jh {w0 w:World} {B g:Nat} {t:TypeId} {x0 x1 x2 x3 x4:Value} {r:List Value} (hL:ai w g t (x0 :: x1 :: x2 :: x3 :: x4 :: r)) (b:Below B w0 w) (hB:B≤g) (a0 a1 a2 a3 a4:Value) :
  ∃ W' : World,Hid ((((((w.setCell ⟨g,0,none⟩ a0).setCell ⟨g,1,none⟩ a1).setCell ⟨g,2,none⟩ a2).setCell ⟨g,3,none⟩ a3).setCell ⟨g,4,none⟩ a4)=W')∧ai W' g t (a0 :: a1 :: a2 :: a3 :: a4 :: r)∧Below B w0 W'∧w.grownBy W' (some g)∧(∀ g' t' cs',g' ≠ g→ai w g' t' cs'→ai W' g' t' cs'):=by
 have gr:w.grownBy (((((w.setCell ⟨g,0,none⟩ a0).setCell ⟨g,1,none⟩ a1).setCell ⟨g,2,none⟩ a2).setCell ⟨g,3,none⟩ a3).setCell ⟨g,4,none⟩ a4) (some g):=ab (g:=g) (i:=4) (u:=a4) (gw4 w g a0 a1 a2 a3)
 exact ⟨_,rfl,(((((hL).set 0 a0).set 1 a1).set 2 a2).set 3 a3).set 4 a4,(((((b).setCell (p:=⟨g,0,none⟩) hB a0).setCell (p:=⟨g,1,none⟩) hB a1).setCell (p:=⟨g,2,none⟩) hB a2).setCell (p:=⟨g,3,none⟩) hB a3).setCell (p:=⟨g,4,none⟩) hB a4,gr,fun g' t' cs' xw h=>h.kept gr (by intro e; injection e with e; exact xw e)⟩
theorem eZ:104 ≠ 42:=dD
theorem fa:147 ≠ 42:=dD
def cn (w:World) (B g:Nat) (y:Oc) (l:Lg):Prop :=
 ∃ TA tc OA oc,ai w g 42 [F TA y.t.length tc,F OA y.o.length oc,O U y.gt,O U y.sd,O U y.ms,xh l.D,xh l.P,O U l.n]∧w.ownsRow B 104 2 (F TA y.t.length tc) y.t.length (y.t.flatMap ar.enc)∧w.ownsRow B 147 3 (F OA y.o.length oc) y.o.length (y.o.flatMap ae.enc)
theorem cn.below {w w' : World} {B g:Nat} {y:Oc} {l:Lg} (h:cn w B g y l) (hb:Below w.heap.size w w'):cn w' B g y l:=by
 obtain ⟨TA,tc,OA,oc,hL,h1,h2⟩:=h
 exact ⟨TA,tc,OA,oc,hL.below hb hL.lt,ac h1 hb,ac h2 hb⟩
theorem cn.lower {w:World} {B B' g:Nat} {y:Oc} {l:Lg} (h:cn w B g y l) (hB:B'≤B):cn w B' g y l:=by
 obtain ⟨TA,tc,OA,oc,hL,h1,h2⟩:=h
 exact ⟨TA,tc,OA,oc,hL,ag h1 hB,ag h2 hB⟩
theorem cn.put {w:World} {B g:Nat} {y:Oc} {l:Lg} {TA OA:Option Addr} {tc oc:Nat} {a0 a1 a2 a3 a4 a5 a6 a7:Value} (hL:ai w g 42 [a0,a1,a2,a3,a4,a5,a6,a7]) (h1:w.ownsRow B 104 2 (F TA y.t.length tc) y.t.length (y.t.flatMap ar.enc)) (h2:w.ownsRow B 147 3 (F OA y.o.length oc) y.o.length (y.o.flatMap ae.enc)) :
  cn ((((((((w.setCell ⟨g,0,none⟩ (F TA y.t.length tc)).setCell ⟨g,1,none⟩ (F OA y.o.length oc)).setCell ⟨g,2,none⟩ (O U y.gt)).setCell ⟨g,3,none⟩ (O U y.sd)).setCell ⟨g,4,none⟩ (O U y.ms)).setCell ⟨g,5,none⟩ (xh l.D)).setCell ⟨g,6,none⟩ (xh l.P)).setCell ⟨g,7,none⟩ (O U l.n)) B g y l:=by
 have gr:w.grownBy ((((((((w.setCell ⟨g,0,none⟩ (F TA y.t.length tc)).setCell ⟨g,1,none⟩ (F OA y.o.length oc)).setCell ⟨g,2,none⟩ (O U y.gt)).setCell ⟨g,3,none⟩ (O U y.sd)).setCell ⟨g,4,none⟩ (O U y.ms)).setCell ⟨g,5,none⟩ (xh l.D)).setCell ⟨g,6,none⟩ (xh l.P)).setCell ⟨g,7,none⟩ (O U l.n)) (some g):=ab (g:=g) (i:=7) (u:=O U l.n) (ab (g:=g) (i:=6) (u:=xh l.P) (ab (g:=g) (i:=5) (u:=xh l.D) (gw5 w g (F TA y.t.length tc) (F OA y.o.length oc) (O U y.gt) (O U y.sd) (O U y.ms))))
 exact ⟨TA,tc,OA,oc,ny (hL) (F TA y.t.length tc) (F OA y.o.length oc) (O U y.gt) (O U y.sd) (O U y.ms) (xh l.D) (xh l.P) (O U l.n),ak h1 hL eZ gr,ak h2 hL fa gr⟩
set_option maxRecDepth 100000 in
theorem iL (x:aN) (l:Lg) (w:World) (h:aQ w w.heap.size x) (tl:x.t.length≤1048576) (ol:x.o.length≤1048576) :
  Calls xi 44 #[aK x l] w (vK w x.c l):=by
 have L1:=(ai.new w 42 #[F x.TA x.t.length x.tc,F x.OA x.o.length x.oc,O U x.gt,O U x.sd,O U x.ms,xh l.D,xh l.P,O U l.n]).alloc (.cells #[F none 0 0,F none 0 0,O U 0,O U 0,O U 0,xh ⟨#[]⟩,xh ⟨#[]⟩,O U 0] 42)
 have L2:=ai.new1 w (.cells #[F x.TA x.t.length x.tc,F x.OA x.o.length x.oc,O U x.gt,O U x.sd,O U x.ms,xh l.D,xh l.P,O U l.n] 42) 42 #[F none 0 0,F none 0 0,O U 0,O U 0,O U 0,xh ⟨#[]⟩,xh ⟨#[]⟩,O U 0]
 have b1:=bZ w (.cells #[F x.TA x.t.length x.tc,F x.OA x.o.length x.oc,O U x.gt,O U x.sd,O U x.ms,xh l.D,xh l.P,O U l.n] 42)
 have b2:=b1.alloc b1.size (.cells #[F none 0 0,F none 0 0,O U 0,O U 0,O U 0,xh ⟨#[]⟩,xh ⟨#[]⟩,O U 0] 42)
 have hW:=h.up b2 nR
 have xR:w.heap.size≤w.heap.size+1:=oM
 clear b1 h
 go_enter Tryz.func44,Tryz.ntmps44
 go_wp2_with fail
 generalize ((w.alloc (.cells #[F x.TA x.t.length x.tc,F x.OA x.o.length x.oc,O U x.gt,O U x.sd,O U x.ms,xh l.D,xh l.P,O U l.n] 42)).alloc (.cells #[F none 0 0,F none 0 0,O U 0,O U 0,O U 0,xh ⟨#[]⟩,xh ⟨#[]⟩,O U 0] 42))=W at L1 L2 b2 hW ⊢
 refine al (Sw 6 (fun W9=>Below W.heap.size W W9) (fun W9=>Below w.heap.size w W9∧cn W9 w.heap.size (w.heap.size+1) x.c l)) (fun i w1 w2=>i ∉ [6]→Below w1.heap.size w1 w2) kZ kZ kZ (Sw.start jB.drew) ?_
 simp only [ax,Act.put,sA,gs0,gs1,Nat.zero_add,Nat.reduceAdd]
 refine aa _ vb0 ?_
 refine aa _ (vb1C5 0 L1) ?_
 refine sm [6] (fun v w9=>fk w9 w.heap.size x.c v) (fun vs L9 w9 xl xj hB K9 xk=>?_) ?_
 next =>
  replace xj:=sb xj xl
  have d1:=fe hB 1
  simp only [d1] at xk ⊢
  simp only [Act.put,sA,gs0,gs1] at xk
  go_simp
  refine (sS x w9 (hW.then xj) tl ol).mono ?_
  rintro en w8 ⟨TA,tc,OA,oc,rfl,h1,h2,xm⟩
  exact xk _ _ _ rfl ⟨TA,tc,OA,oc,rfl,ag h1 (jT (b2).size xj.size),ag h2 (jT (b2).size xj.size)⟩ (Sw.stay xl kZ dD (xj.trans (xm.mono xj.size))) (fun _=>xm)
 refine aa _ vb0 ?_
 refine aa _ (vb1e 3 L1) ?_
 refine sm [6] (fun v w9=>gX w9 w.heap.size x.c l v) (fun vs L9 w9 xl xj hB K9 xk=>?_) ?_
 next =>
  replace xj:=sb xj xl
  have d4:=fe hB 4
  simp only [d4] at xk ⊢
  simp only [Act.put,sA,gs0,gs1] at xk
  obtain ⟨TA,tc,OA,oc,e0,h1,h2⟩:=fs hB 2
  simp only [e0] at xk ⊢
  go_simp
  exact xk _ _ _ rfl ⟨TA,tc,OA,oc,rfl,h1,h2⟩ (sy xl xj) bR
 refine aa (undef) (fun vs L9 w9 xl xj hB K9 xk=>?_) ?_
 next =>
  replace xj:=xj.here xl
  obtain ⟨TA,tc,OA,oc,e0,h1,h2⟩:=fs hB 5
  simp only [e0] at xk ⊢
  have Lr:=L2.below xj L2.lt
  obtain ⟨z0,z1,z2,z3,z4,z5,z6,z7⟩:=cells8 Lr
  obtain ⟨f0,f1,f2,f3,f4,f5,f6,f7⟩:=frz8 Lr
  have xO:=jZ (cn.put (y:=x.c) (l:=l) Lr h1 h2)
  have yl:=jZ (eW (g:=(w.heap.size+1)) ((b2).trans (xj.mono (b2).size)) xR (F TA x.t.length tc) (F OA x.o.length oc) (O U x.gt) (O U x.sd) (O U x.ms) (xh l.D) (xh l.P) (O U l.n))
  clear Lr h1 h2
  go_simp
  exact xk _ _ rfl (Sw.turn ⟨yl.out,xO.out⟩) nq
 refine au fun vs L9 w9 xv xj hB=>?_
 replace xj:=xj.done xv dD
 obtain ⟨hD,TA,tc,OA,oc,hN,hT,hO⟩:=xj
 obtain ⟨k0,k1,k2,k3,k4,k5,k6,k7⟩:=cells8 hN
 clear hN hB
 go_wp2
 refine bodyPost_ret (v:=.agg #[F TA x.c.t.length tc,F OA x.c.o.length oc,O U x.c.gt,O U x.c.sd,O U x.c.ms,xh l.D,xh l.P,O U l.n]) (by simp [results,Tryz.results44,go_sem, *]) rfl ⟨_,rfl,⟨TA,tc,OA,oc,rfl,hT,hO⟩,hD⟩
set_option maxRecDepth 100000 in
theorem fM (x:aN) (l:Lg) (g:Nat) (w:World) (hL:ai w g 42 [F x.TA x.t.length x.tc,F x.OA x.o.length x.oc,O U x.gt,O U x.sd,O U x.ms,xh l.D,xh l.P,O U l.n]) (h:aQ w w.heap.size x) (tl:x.t.length≤1048576) (ol:x.o.length≤1048576) :
  Calls xi 50 #[.pointer (some ⟨g,0,none⟩)] w (vK w x.c l):=by
 have L1:=hL.alloc (.cells #[F none 0 0,F none 0 0,O U 0,O U 0,O U 0,xh ⟨#[]⟩,xh ⟨#[]⟩,O U 0] 42)
 have L2:=ai.new w 42 #[F none 0 0,F none 0 0,O U 0,O U 0,O U 0,xh ⟨#[]⟩,xh ⟨#[]⟩,O U 0]
 have b2:=bZ w (.cells #[F none 0 0,F none 0 0,O U 0,O U 0,O U 0,xh ⟨#[]⟩,xh ⟨#[]⟩,O U 0] 42)
 have hW:=h.up b2 nR
 have xR:w.heap.size≤w.heap.size:=Nat.le_refl _
 clear h hL
 go_enter Tryz.func50,Tryz.ntmps50
 go_wp2_with fail
 generalize w.alloc (.cells #[F none 0 0,F none 0 0,O U 0,O U 0,O U 0,xh ⟨#[]⟩,xh ⟨#[]⟩,O U 0] 42)=W at L1 L2 b2 hW ⊢
 refine al (Sw 9 (fun W9=>Below W.heap.size W W9) (fun W9=>Below w.heap.size w W9∧cn W9 w.heap.size w.heap.size x.c l)) (fun i w1 w2=>i ∉ [9]→Below w1.heap.size w1 w2) kZ kZ kZ (Sw.start jB.drew) ?_
 simp only [ax,Act.put,sA,gs0,gs1,Nat.zero_add,Nat.reduceAdd]
 refine aa _ vb0 ?_
 refine aa _ (vb1 0) ?_
 refine aa _ (vb1 1) ?_
 refine sm [9] (fun v w9=>fk w9 w.heap.size x.c v) (fun vs L9 w9 xl xj hB K9 xk=>?_) ?_
 next =>
  replace xj:=sb xj xl
  have d2:=fe hB 2
  simp only [d2] at xk ⊢
  simp only [Act.put,sA,gs0,gs1] at xk
  go_simp
  refine (oH x g w9 (lm (L1.below xj L1.lt) (hW.then xj)) tl ol).mono ?_
  rintro en w8 ⟨TA,tc,OA,oc,rfl,h1,h2,xm⟩
  exact xk _ _ _ rfl ⟨TA,tc,OA,oc,rfl,ag h1 (jT (b2).size xj.size),ag h2 (jT (b2).size xj.size)⟩ (Sw.stay xl kZ dD (xj.trans (xm.mono xj.size))) (fun _=>xm)
 refine aa _ vb0 ?_
 refine aa _ (vb1 4) ?_
 refine aa _ (vb1 5) ?_
 refine aa _ (vb1e 6 L1) ?_
 refine sm [9] (fun v w9=>gX w9 w.heap.size x.c l v) (fun vs L9 w9 xl xj hB K9 xk=>?_) ?_
 next =>
  replace xj:=sb xj xl
  have d7:=fe hB 7
  simp only [d7] at xk ⊢
  simp only [Act.put,sA,gs0,gs1] at xk
  obtain ⟨TA,tc,OA,oc,e0,h1,h2⟩:=fs hB 3
  simp only [e0] at xk ⊢
  go_simp
  exact xk _ _ _ rfl ⟨TA,tc,OA,oc,rfl,h1,h2⟩ (sy xl xj) bR
 refine aa (undef) (fun vs L9 w9 xl xj hB K9 xk=>?_) ?_
 next =>
  replace xj:=xj.here xl
  obtain ⟨TA,tc,OA,oc,e0,h1,h2⟩:=fs hB 8
  simp only [e0] at xk ⊢
  have Lr:=L2.below xj L2.lt
  obtain ⟨z0,z1,z2,z3,z4,z5,z6,z7⟩:=cells8 Lr
  obtain ⟨f0,f1,f2,f3,f4,f5,f6,f7⟩:=frz8 Lr
  have xO:=jZ (cn.put (y:=x.c) (l:=l) Lr h1 h2)
  have yl:=jZ (eW (g:=w.heap.size) ((b2).trans (xj.mono (b2).size)) xR (F TA x.t.length tc) (F OA x.o.length oc) (O U x.gt) (O U x.sd) (O U x.ms) (xh l.D) (xh l.P) (O U l.n))
  clear Lr h1 h2
  go_simp
  exact xk _ _ rfl (Sw.turn ⟨yl.out,xO.out⟩) nq
 refine au fun vs L9 w9 xv xj hB=>?_
 replace xj:=xj.done xv dD
 obtain ⟨hD,TA,tc,OA,oc,hN,hT,hO⟩:=xj
 obtain ⟨k0,k1,k2,k3,k4,k5,k6,k7⟩:=cells8 hN
 clear hN hB
 go_wp2
 refine bodyPost_ret (v:=.agg #[F TA x.c.t.length tc,F OA x.c.o.length oc,O U x.c.gt,O U x.c.sd,O U x.c.ms,xh l.D,xh l.P,O U l.n]) (by simp [results,Tryz.results50,go_sem, *]) rfl ⟨_,rfl,⟨TA,tc,OA,oc,rfl,hT,hO⟩,hD⟩
def fI (w:World) (B:Nat) (x:aN) (l:Lg) (y:Oc) (v:Value):Prop :=
 (v=aK x l∧y=x.c) ∨ ∃ TA tc OA oc,v=aK (y.at TA tc OA oc) l∧w.ownsRow B 104 2 (F TA y.t.length tc) y.t.length (y.t.flatMap ar.enc)∧w.ownsRow B 147 3 (F OA y.o.length oc) y.o.length (y.o.flatMap ae.enc)
theorem fI.below {w w' : World} {B:Nat} {x:aN} {l:Lg} {y:Oc} {v:Value} (h:fI w B x l y v) (hb:Below w.heap.size w w'):fI w' B x l y v:=by
 rcases h with h | ⟨TA,tc,OA,oc,e,h1,h2⟩
 ·exact .inl h
 ·exact .inr ⟨TA,tc,OA,oc,e,ac h1 hb,ac h2 hb⟩
theorem fI.lower {w:World} {B B' : Nat} {x:aN} {l:Lg} {y:Oc} {v:Value} (h:fI w B x l y v) (hB:B'≤B):fI w B' x l y v:=by
 rcases h with h | ⟨TA,tc,OA,oc,e,h1,h2⟩
 ·exact .inl h
 ·exact .inr ⟨TA,tc,OA,oc,e,ag h1 hB,ag h2 hB⟩
theorem fI.kept {w w' : World} {B g:Nat} {x:aN} {l:Lg} {y:Oc} {v:Value} {cs:List Value} (h:fI w B x l y v) (hL:ai w g 42 cs) (hg:w.grownBy w' (some g)):fI w' B x l y v:=by
 rcases h with h | ⟨TA,tc,OA,oc,e,h1,h2⟩
 ·exact .inl h
 ·exact .inr ⟨TA,tc,OA,oc,e,ak h1 hL eZ hg,ak h2 hL fa hg⟩
theorem fI.as {w:World} {B:Nat} {x:aN} {l:Lg} {y:Oc} {v:Value} (h:fI w B x l y v) (hx:aQ w w.heap.size x):∃ X:aN,v=aK X l∧X.c=y∧aQ w w.heap.size X:=by
 rcases h with ⟨rfl,rfl⟩ | ⟨TA,tc,OA,oc,rfl,h1,h2⟩
 ·exact ⟨x,rfl,rfl,hx⟩
 ·exact ⟨y.at TA tc OA oc,rfl,rfl,an h1,an h2⟩
def fJ (x:aN) (R:Option (Oc × ByteArray)):Oc:=(R.map Prod.fst).getD x.c
def jW (R:Option (Oc × ByteArray)):ByteArray:=(R.map Prod.snd).getD da
def bv (w:World) (x:aN) (l:Lg) (R:Option (Oc × ByteArray)) (e:Ending) (w' : World):Prop :=
 ∃ v,e=.returned (.tuple #[v,xh (jW R)])∧fI w' w.heap.size x l (fJ x R) v∧Below w.heap.size w w'
theorem bv.mk {w w' : World} {x:aN} {l:Lg} {R:Option (Oc × ByteArray)} {v:Value} {T:ByteArray} (hT:jW R=T) (h1:fI w' w.heap.size x l (fJ x R) v) (h2:Below w.heap.size w w'):bv w x l R (.returned (.tuple #[v,xh T])) w':=by
 subst hT; exact ⟨v,rfl,h1,h2⟩
theorem jx (x:aN) (s:de) (w:World) (h:aQ w w.heap.size x) (xA:x.t.length≤x.tc):Calls xi 76 #[x.val,s.val] w (aE w (gy x.c s)):=jN x s w h xA
set_option maxRecDepth 100000 in
theorem uH (x:aN) (l:Lg) (kd st pe va:Int) (w:World) (h:aQ w w.heap.size x) (xA:x.t.length≤x.tc) (hN:gy x.c ⟨kd,st,pe,va⟩=none) :
  Calls xi 89 #[aK x l,.agg #[O U kd,O U st,O U pe,O U va]] w (bv w x l none):=by
 have L1:=((ai.new w 42 #[F x.TA x.t.length x.tc,F x.OA x.o.length x.oc,O U x.gt,O U x.sd,O U x.ms,xh l.D,xh l.P,O U l.n]).alloc (.cells #[O U kd,O U st,O U pe,O U va] 112)).alloc (.cells #[F none 0 0,F none 0 0,O U 0,O U 0,O U 0,xh ⟨#[]⟩,xh ⟨#[]⟩,O U 0] 42)
 have L2:=(ai.new1 w (.cells #[F x.TA x.t.length x.tc,F x.OA x.o.length x.oc,O U x.gt,O U x.sd,O U x.ms,xh l.D,xh l.P,O U l.n] 42) 112 #[O U kd,O U st,O U pe,O U va]).alloc (.cells #[F none 0 0,F none 0 0,O U 0,O U 0,O U 0,xh ⟨#[]⟩,xh ⟨#[]⟩,O U 0] 42)
 have L3:=ai.new2 w (.cells #[F x.TA x.t.length x.tc,F x.OA x.o.length x.oc,O U x.gt,O U x.sd,O U x.ms,xh l.D,xh l.P,O U l.n] 42) (.cells #[O U kd,O U st,O U pe,O U va] 112) 42 #[F none 0 0,F none 0 0,O U 0,O U 0,O U 0,xh ⟨#[]⟩,xh ⟨#[]⟩,O U 0]
 have b1:=bZ w (.cells #[F x.TA x.t.length x.tc,F x.OA x.o.length x.oc,O U x.gt,O U x.sd,O U x.ms,xh l.D,xh l.P,O U l.n] 42)
 have b2:=b1.alloc b1.size (.cells #[O U kd,O U st,O U pe,O U va] 112)
 have b3:=b2.alloc b2.size (.cells #[F none 0 0,F none 0 0,O U 0,O U 0,O U 0,xh ⟨#[]⟩,xh ⟨#[]⟩,O U 0] 42)
 have hW:=h.up b3 nR
 have xR:w.heap.size≤w.heap.size+1+1:=oM
 clear b1 b2 h
 have cS:=fun W hR=>jx x ⟨kd,st,pe,va⟩ W hR xA
 rw [hN] at cS
 clear hN
 go_enter Tryz.func89,Tryz.ntmps89
 go_wp2_with fail
 generalize (((w.alloc (.cells #[F x.TA x.t.length x.tc,F x.OA x.o.length x.oc,O U x.gt,O U x.sd,O U x.ms,xh l.D,xh l.P,O U l.n] 42)).alloc (.cells #[O U kd,O U st,O U pe,O U va] 112)).alloc (.cells #[F none 0 0,F none 0 0,O U 0,O U 0,O U 0,xh ⟨#[]⟩,xh ⟨#[]⟩,O U 0] 42))=W at L1 L2 L3 b3 hW ⊢
 refine (cS W hW).mono ?_
 rintro e W1 ⟨TA,tc,OA,oc,rfl,hT,hO,hb⟩
 simp only [cQ,Option.getD_none,Option.isSome_none,Oc.at,aN.val,Oc.zero,List.length_nil]
 have xo:=(Below.refl W1.heap.size W1).alloc nR (.cells #[F TA 0 tc,F OA 0 oc,O U 0,O U 0,O U 0] 40)
 have xn:=av hb xo
 have K1:=L1.below xn L1.lt
 have K3:=L3.below xn L3.lt
 have b4:=av b3 xn
 clear xo hb xn L1 L2 L3 b3 hT hO hW
 obtain ⟨c0,c1,c2,c3,c4,c5,c6,c7⟩:=cells8 K1
 obtain ⟨z0,z1,z2,z3,z4,z5,z6,z7⟩:=cells8 K3
 obtain ⟨f0,f1,f2,f3,f4,f5,f6,f7⟩:=frz8 K3
 have bz:=jZ (eW (g:=w.heap.size+1+1) (b4) xR (F x.TA x.t.length x.tc) (F x.OA x.o.length x.oc) (O U x.gt) (O U x.sd) (O U x.ms) (xh l.D) (xh l.P) (O U l.n))
 clear K1 K3 b4
 go_wp2
 refine bodyPost_ret (v:=.tuple #[aK x l,xh ⟨#[63]⟩]) (by simp [results,Tryz.results89,go_sem, *]) rfl ?_
 exact ⟨_,rfl,.inl ⟨rfl,rfl⟩,bz.out⟩
set_option maxRecDepth 100000 in
theorem vL (x:aN) (l:Lg) (st pe va:Int) (w:World) (h:aQ w w.heap.size x) (xA:x.t.length≤x.tc) (z:Oc) (hN:gy x.c ⟨1,st,pe,va⟩=some z) :
  Calls xi 89 #[aK x l,.agg #[O U 1,O U st,O U pe,O U va]] w (bv w x l (some (z,bM (cF z.t)))):=by
 have L1:=((ai.new w 42 #[F x.TA x.t.length x.tc,F x.OA x.o.length x.oc,O U x.gt,O U x.sd,O U x.ms,xh l.D,xh l.P,O U l.n]).alloc (.cells #[O U 1,O U st,O U pe,O U va] 112)).alloc (.cells #[F none 0 0,F none 0 0,O U 0,O U 0,O U 0,xh ⟨#[]⟩,xh ⟨#[]⟩,O U 0] 42)
 have L2:=(ai.new1 w (.cells #[F x.TA x.t.length x.tc,F x.OA x.o.length x.oc,O U x.gt,O U x.sd,O U x.ms,xh l.D,xh l.P,O U l.n] 42) 112 #[O U 1,O U st,O U pe,O U va]).alloc (.cells #[F none 0 0,F none 0 0,O U 0,O U 0,O U 0,xh ⟨#[]⟩,xh ⟨#[]⟩,O U 0] 42)
 have L3:=ai.new2 w (.cells #[F x.TA x.t.length x.tc,F x.OA x.o.length x.oc,O U x.gt,O U x.sd,O U x.ms,xh l.D,xh l.P,O U l.n] 42) (.cells #[O U 1,O U st,O U pe,O U va] 112) 42 #[F none 0 0,F none 0 0,O U 0,O U 0,O U 0,xh ⟨#[]⟩,xh ⟨#[]⟩,O U 0]
 have b1:=bZ w (.cells #[F x.TA x.t.length x.tc,F x.OA x.o.length x.oc,O U x.gt,O U x.sd,O U x.ms,xh l.D,xh l.P,O U l.n] 42)
 have b2:=b1.alloc b1.size (.cells #[O U 1,O U st,O U pe,O U va] 112)
 have b3:=b2.alloc b2.size (.cells #[F none 0 0,F none 0 0,O U 0,O U 0,O U 0,xh ⟨#[]⟩,xh ⟨#[]⟩,O U 0] 42)
 have hW:=h.up b3 nR
 have xR:w.heap.size≤w.heap.size+1+1:=oM
 clear b1 b2 h
 have cS:=fun W hR=>jx x ⟨1,st,pe,va⟩ W hR xA
 have hz:=fL hN
 rw [hN] at cS
 clear hN
 have GZ:bK (z.at none 0 none 0):=bu.1 hz.1
 have HT:Hid (jW (some (z,bM (cF z.t)))=bM (cF z.t)):=rfl
 go_enter Tryz.func89,Tryz.ntmps89
 go_wp2_with fail
 generalize (((w.alloc (.cells #[F x.TA x.t.length x.tc,F x.OA x.o.length x.oc,O U x.gt,O U x.sd,O U x.ms,xh l.D,xh l.P,O U l.n] 42)).alloc (.cells #[O U 1,O U st,O U pe,O U va] 112)).alloc (.cells #[F none 0 0,F none 0 0,O U 0,O U 0,O U 0,xh ⟨#[]⟩,xh ⟨#[]⟩,O U 0] 42))=W at L1 L2 L3 b3 hW ⊢
 refine (cS W hW).mono ?_
 rintro e W1 ⟨TA,tc,OA,oc,rfl,hT,hO,hb⟩
 simp only [cQ,Option.getD_some,Option.isSome_some,Oc.at,aN.val] at hT hO ⊢
 go_upto_region 4 with fail
 have xo:=(Below.refl W1.heap.size W1).alloc nR (.cells #[F TA z.t.length tc,F OA z.o.length oc,O U z.gt,O U z.sd,O U z.ms] 40)
 have xn:=av hb xo
 have J1:=L1.below xn L1.lt
 have J2:=L2.below xn L2.lt
 have J3:=L3.below xn L3.lt
 have J6:=ai.new W1 40 #[F TA z.t.length tc,F OA z.o.length oc,O U z.gt,O U z.sd,O U z.ms]
 have b4:=av b3 xn
 have yy:=ag (ac hT xo) b3.size
 have yz:=ag (ac hO xo) b3.size
 have g26:w.heap.size+1+1 < W1.heap.size:=jL L3.lt hb.size
 clear xo xn hb hT hO L1 L2 L3 b3
 generalize W1.alloc (.cells #[F TA z.t.length tc,F OA z.o.length oc,O U z.gt,O U z.sd,O U z.ms] 40)=W2 at J1 J2 J3 J6 b4 yy yz ⊢
 generalize W1.heap.size=g6 at J6 g26 ⊢
 obtain ⟨c0,c1,c2,c3,c4,c5,c6,c7⟩:=cells8 J1
 go_upto_region 5 with fail
 clear c0 c1 c2 c3 c4 c5 c6 c7
 have xo:=(Below.refl W2.heap.size W2).alloc nR (.cells #[F x.TA x.t.length x.tc,F x.OA x.o.length x.oc,O U x.gt,O U x.sd,O U x.ms,xh l.D,xh l.P,O U l.n] 42)
 have K1:=J1.below xo J1.lt
 have K2:=J2.below xo J2.lt
 have K3:=J3.below xo J3.lt
 have K6:=J6.below xo J6.lt
 have K8:=ai.new W2 42 #[F x.TA x.t.length x.tc,F x.OA x.o.length x.oc,O U x.gt,O U x.sd,O U x.ms,xh l.D,xh l.P,O U l.n]
 have b5:=b4.trans (xo.mono b4.size)
 have Ag:=ac yy xo
 have Ah:=ac yz xo
 have g68:g6 < W2.heap.size:=J6.lt
 clear xo J1 J2 J3 J6 b4 yy yz
 generalize W2.alloc (.cells #[F x.TA x.t.length x.tc,F x.OA x.o.length x.oc,O U x.gt,O U x.sd,O U x.ms,xh l.D,xh l.P,O U l.n] 42)=W3 at K1 K2 K3 K6 K8 b5 Ag Ah ⊢
 generalize W2.heap.size=g8 at K8 g68 ⊢
 have xP:w.heap.size≤g8:=oM
 obtain ⟨p0,p1,p2,p3,p4⟩:=cells5 K6
 obtain ⟨q0,q1,q2,q3,q4,q5,q6,q7⟩:=cells8 K8
 obtain ⟨f0,f1,f2,f3,f4,f5,f6,f7⟩:=frz8 K8
 go_upto_region 6 with fail
 obtain ⟨W4,DA,M8,b6,gr,OT⟩:=jh K8 b5 xP (F TA z.t.length tc) (F OA z.o.length oc) (O U z.gt) (O U z.sd) (O U z.ms)
 have M1:=OT _ _ _ oM K1
 have M2:=OT _ _ _ oM K2
 have M3:=OT _ _ _ oM K3
 have M6:=OT _ _ _ oM K6
 have hT:=ak Ag K8 eZ gr
 have hO:=ak Ah K8 fa gr
 clear p0 p1 p2 p3 p4 q0 q1 q2 q3 q4 q5 q6 q7 f0 f1 f2 f3 f4 K1 K2 K3 K6 K8 Ag Ah b5 gr OT
 rw [DA.out]
 clear DA
 have zQ:aQ W4 W4.heap.size (z.at TA tc OA oc):=⟨an hT,an hO⟩
 obtain ⟨s0,s1,s2,s3⟩:=cells4 M2
 obtain ⟨p0,p1,p2,p3,p4⟩:=cells5 M6
 have hs:=jm (z.at TA tc OA oc) W4 zQ
 rw [show ap (z.at TA tc OA oc)=true from hz.1] at hs
 simp only [vf,if_true] at hs
 have hn:=fun W=>gQ (cF z.t) true W (fun _=>⟨GZ.inB.1,by have:=GZ.inB.2; have e:(z.at none 0 none 0).t=z.t:=rfl; rw [e] at this; omega⟩)
 simp only [if_true] at hn
 go_wp2_with fail
 refine hs.mono ?_
 rintro e W5 ⟨rfl,hb5⟩
 have N3:=M3.below hb5 M3.lt
 have N8:=M8.below hb5 M8.lt
 have b7:=b6.trans (hb5.mono b6.size)
 have yK:=ac hT hb5
 have yL:=ac hO hb5
 clear s0 s1 s2 s3 p0 p1 p2 p3 p4 hs M1 M2 M3 M6 M8 b6 hT hO zQ hb5
 go_wp2_with fail
 refine al (Sw 4 (fun W9=>Below W5.heap.size W5 W9) (fun W9=>Below w.heap.size w W9∧cn W9 w.heap.size (w.heap.size+1+1) z l)) (fun i w1 w2=>i ∉ [4]→Below w1.heap.size w1 w2) kZ kZ kZ (Sw.start jB.drew) ?_
 simp only [ax,Act.put,sA,gs0,gs1,Nat.zero_add,Nat.reduceAdd]
 refine aa _ (vb0C8 N8) ?_
 refine aa _ vb0 ?_
 refine aa _ vb0 ?_
 refine aa (xh (bM (cF z.t))) (fun vs L9 w9 xl xj hB K9 xk=>?_) ?_
 next =>
  replace xj:=sb xj xl
  have d1:=fe hB 1
  have d2:=fe hB 2
  simp only [d1,d2] at xk ⊢
  go_simp
  refine (hn w9).mono ?_
  rintro en w8 ⟨rfl,xm⟩
  exact xk _ _ rfl (Sw.stay xl kZ dD (xj.trans (xm.mono xj.size))) (fun _=>xm)
 refine aa (undef) (fun vs L9 w9 xl xj hB K9 xk=>?_) ?_
 next =>
  replace xj:=xj.here xl
  have d0:=fe hB 0
  simp only [d0] at xk ⊢
  have Lr:=N3.below xj N3.lt
  obtain ⟨z0,z1,z2,z3,z4,z5,z6,z7⟩:=cells8 Lr
  obtain ⟨f0,f1,f2,f3,f4,f5,f6,f7⟩:=frz8 Lr
  have xO:=jZ (cn.put (y:=z) (l:=l) Lr (ac yK xj) (ac yL xj))
  have yl:=jZ (eW (g:=(w.heap.size+1+1)) ((b7).trans (xj.mono (b7).size)) xR (F TA z.t.length tc) (F OA z.o.length oc) (O U z.gt) (O U z.sd) (O U z.ms) (xh l.D) (xh l.P) (O U l.n))
  clear Lr
  go_simp
  exact xk _ _ rfl (Sw.turn ⟨yl.out,xO.out⟩) nq
 refine aa _ (va1 3) ?_
 refine au fun vs L9 w9 xv xj hB=>?_
 replace xj:=xj.done xv dD
 have dl:=ah.eq (hB 5 _ rfl rfl dD)
 simp only [dl]
 clear hB dl
 obtain ⟨hD,TB,tb,OB,ob,hN,xJ,yk⟩:=xj
 obtain ⟨k0,k1,k2,k3,k4,k5,k6,k7⟩:=cells8 hN
 clear hN
 go_wp2
 refine bodyPost_ret (v:=.tuple #[.agg #[F TB z.t.length tb,F OB z.o.length ob,O U z.gt,O U z.sd,O U z.ms,xh l.D,xh l.P,O U l.n],xh (bM (cF z.t))]) (by simp [results,Tryz.results89,go_sem, *]) rfl (bv.mk HT.out (.inr ⟨TB,tb,OB,ob,rfl,xJ,yk⟩) hD)
set_option maxRecDepth 100000 in
theorem uI (x:aN) (l:Lg) (st pe va:Int) (w:World) (h:aQ w w.heap.size x) (xA:x.t.length≤x.tc) (z:Oc) (hN:gy x.c ⟨4,st,pe,va⟩=some z) :
  Calls xi 89 #[aK x l,.agg #[O U 4,O U st,O U pe,O U va]] w (bv w x l (some (z,bM z.sd))):=by
 have L1:=((ai.new w 42 #[F x.TA x.t.length x.tc,F x.OA x.o.length x.oc,O U x.gt,O U x.sd,O U x.ms,xh l.D,xh l.P,O U l.n]).alloc (.cells #[O U 4,O U st,O U pe,O U va] 112)).alloc (.cells #[F none 0 0,F none 0 0,O U 0,O U 0,O U 0,xh ⟨#[]⟩,xh ⟨#[]⟩,O U 0] 42)
 have L2:=(ai.new1 w (.cells #[F x.TA x.t.length x.tc,F x.OA x.o.length x.oc,O U x.gt,O U x.sd,O U x.ms,xh l.D,xh l.P,O U l.n] 42) 112 #[O U 4,O U st,O U pe,O U va]).alloc (.cells #[F none 0 0,F none 0 0,O U 0,O U 0,O U 0,xh ⟨#[]⟩,xh ⟨#[]⟩,O U 0] 42)
 have L3:=ai.new2 w (.cells #[F x.TA x.t.length x.tc,F x.OA x.o.length x.oc,O U x.gt,O U x.sd,O U x.ms,xh l.D,xh l.P,O U l.n] 42) (.cells #[O U 4,O U st,O U pe,O U va] 112) 42 #[F none 0 0,F none 0 0,O U 0,O U 0,O U 0,xh ⟨#[]⟩,xh ⟨#[]⟩,O U 0]
 have b1:=bZ w (.cells #[F x.TA x.t.length x.tc,F x.OA x.o.length x.oc,O U x.gt,O U x.sd,O U x.ms,xh l.D,xh l.P,O U l.n] 42)
 have b2:=b1.alloc b1.size (.cells #[O U 4,O U st,O U pe,O U va] 112)
 have b3:=b2.alloc b2.size (.cells #[F none 0 0,F none 0 0,O U 0,O U 0,O U 0,xh ⟨#[]⟩,xh ⟨#[]⟩,O U 0] 42)
 have hW:=h.up b3 nR
 have xR:w.heap.size≤w.heap.size+1+1:=oM
 clear b1 b2 h
 have cS:=fun W hR=>jx x ⟨4,st,pe,va⟩ W hR xA
 have hz:=fL hN
 rw [hN] at cS
 clear hN
 have GZ:bK (z.at none 0 none 0):=bu.1 hz.1
 have HT:Hid (jW (some (z,bM z.sd))=bM z.sd):=rfl
 go_enter Tryz.func89,Tryz.ntmps89
 go_wp2_with fail
 generalize (((w.alloc (.cells #[F x.TA x.t.length x.tc,F x.OA x.o.length x.oc,O U x.gt,O U x.sd,O U x.ms,xh l.D,xh l.P,O U l.n] 42)).alloc (.cells #[O U 4,O U st,O U pe,O U va] 112)).alloc (.cells #[F none 0 0,F none 0 0,O U 0,O U 0,O U 0,xh ⟨#[]⟩,xh ⟨#[]⟩,O U 0] 42))=W at L1 L2 L3 b3 hW ⊢
 refine (cS W hW).mono ?_
 rintro e W1 ⟨TA,tc,OA,oc,rfl,hT,hO,hb⟩
 simp only [cQ,Option.getD_some,Option.isSome_some,Oc.at,aN.val] at hT hO ⊢
 go_upto_region 4 with fail
 have xo:=(Below.refl W1.heap.size W1).alloc nR (.cells #[F TA z.t.length tc,F OA z.o.length oc,O U z.gt,O U z.sd,O U z.ms] 40)
 have xn:=av hb xo
 have J1:=L1.below xn L1.lt
 have J2:=L2.below xn L2.lt
 have J3:=L3.below xn L3.lt
 have J6:=ai.new W1 40 #[F TA z.t.length tc,F OA z.o.length oc,O U z.gt,O U z.sd,O U z.ms]
 have b4:=av b3 xn
 have yy:=ag (ac hT xo) b3.size
 have yz:=ag (ac hO xo) b3.size
 have g26:w.heap.size+1+1 < W1.heap.size:=jL L3.lt hb.size
 clear xo xn hb hT hO L1 L2 L3 b3
 generalize W1.alloc (.cells #[F TA z.t.length tc,F OA z.o.length oc,O U z.gt,O U z.sd,O U z.ms] 40)=W2 at J1 J2 J3 J6 b4 yy yz ⊢
 generalize W1.heap.size=g6 at J6 g26 ⊢
 obtain ⟨c0,c1,c2,c3,c4,c5,c6,c7⟩:=cells8 J1
 go_upto_region 5 with fail
 clear c0 c1 c2 c3 c4 c5 c6 c7
 have xo:=(Below.refl W2.heap.size W2).alloc nR (.cells #[F x.TA x.t.length x.tc,F x.OA x.o.length x.oc,O U x.gt,O U x.sd,O U x.ms,xh l.D,xh l.P,O U l.n] 42)
 have K1:=J1.below xo J1.lt
 have K2:=J2.below xo J2.lt
 have K3:=J3.below xo J3.lt
 have K6:=J6.below xo J6.lt
 have K8:=ai.new W2 42 #[F x.TA x.t.length x.tc,F x.OA x.o.length x.oc,O U x.gt,O U x.sd,O U x.ms,xh l.D,xh l.P,O U l.n]
 have b5:=b4.trans (xo.mono b4.size)
 have Ag:=ac yy xo
 have Ah:=ac yz xo
 have g68:g6 < W2.heap.size:=J6.lt
 clear xo J1 J2 J3 J6 b4 yy yz
 generalize W2.alloc (.cells #[F x.TA x.t.length x.tc,F x.OA x.o.length x.oc,O U x.gt,O U x.sd,O U x.ms,xh l.D,xh l.P,O U l.n] 42)=W3 at K1 K2 K3 K6 K8 b5 Ag Ah ⊢
 generalize W2.heap.size=g8 at K8 g68 ⊢
 have xP:w.heap.size≤g8:=oM
 obtain ⟨p0,p1,p2,p3,p4⟩:=cells5 K6
 obtain ⟨q0,q1,q2,q3,q4,q5,q6,q7⟩:=cells8 K8
 obtain ⟨f0,f1,f2,f3,f4,f5,f6,f7⟩:=frz8 K8
 go_upto_region 6 with fail
 obtain ⟨W4,DA,M8,b6,gr,OT⟩:=jh K8 b5 xP (F TA z.t.length tc) (F OA z.o.length oc) (O U z.gt) (O U z.sd) (O U z.ms)
 have M1:=OT _ _ _ oM K1
 have M2:=OT _ _ _ oM K2
 have M3:=OT _ _ _ oM K3
 have M6:=OT _ _ _ oM K6
 have hT:=ak Ag K8 eZ gr
 have hO:=ak Ah K8 fa gr
 clear p0 p1 p2 p3 p4 q0 q1 q2 q3 q4 q5 q6 q7 f0 f1 f2 f3 f4 K1 K2 K3 K6 K8 Ag Ah b5 gr OT
 rw [DA.out]
 clear DA
 have zQ:aQ W4 W4.heap.size (z.at TA tc OA oc):=⟨an hT,an hO⟩
 obtain ⟨s0,s1,s2,s3⟩:=cells4 M2
 obtain ⟨p0,p1,p2,p3,p4⟩:=cells5 M6
 have hn:=fun W=>cy z.sd W GZ.s.1 (by have:=GZ.s.2; have e:(z.at none 0 none 0).sd=z.sd:=rfl; rw [e] at this; omega)
 clear zQ M1 M2
 go_wp2_with fail
 refine al (Sw 4 (fun W9=>Below W4.heap.size W4 W9) (fun W9=>Below w.heap.size w W9∧cn W9 w.heap.size (w.heap.size+1+1) z l)) (fun i w1 w2=>i ∉ [4]→Below w1.heap.size w1 w2) kZ kZ kZ (Sw.start jB.drew) ?_
 simp only [ax,Act.put,sA,gs0,gs1,Nat.zero_add,Nat.reduceAdd]
 refine aa _ (vb0C8 M8) ?_
 refine aa _ vb0 ?_
 refine aa _ (vb1c1 1 M6 3) ?_
 refine aa (xh (bM z.sd)) (fun vs L9 w9 xl xj hB K9 xk=>?_) ?_
 next =>
  replace xj:=sb xj xl
  have d2:=fe hB 2
  simp only [d2] at xk ⊢
  go_simp
  refine (hn w9).mono ?_
  rintro en w8 ⟨rfl,xm⟩
  exact xk _ _ rfl (Sw.stay xl kZ dD (xj.trans (xm.mono xj.size))) (fun _=>xm)
 refine aa (undef) (fun vs L9 w9 xl xj hB K9 xk=>?_) ?_
 next =>
  replace xj:=xj.here xl
  have d0:=fe hB 0
  simp only [d0] at xk ⊢
  have Lr:=M3.below xj M3.lt
  obtain ⟨z0,z1,z2,z3,z4,z5,z6,z7⟩:=cells8 Lr
  obtain ⟨f0,f1,f2,f3,f4,f5,f6,f7⟩:=frz8 Lr
  have xO:=jZ (cn.put (y:=z) (l:=l) Lr (ac hT xj) (ac hO xj))
  have yl:=jZ (eW (g:=(w.heap.size+1+1)) ((b6).trans (xj.mono (b6).size)) xR (F TA z.t.length tc) (F OA z.o.length oc) (O U z.gt) (O U z.sd) (O U z.ms) (xh l.D) (xh l.P) (O U l.n))
  clear Lr
  go_simp
  exact xk _ _ rfl (Sw.turn ⟨yl.out,xO.out⟩) nq
 refine aa _ (va1 3) ?_
 refine au fun vs L9 w9 xv xj hB=>?_
 replace xj:=xj.done xv dD
 have dl:=ah.eq (hB 5 _ rfl rfl dD)
 simp only [dl]
 clear hB dl
 obtain ⟨hD,TB,tb,OB,ob,hN,xJ,yk⟩:=xj
 obtain ⟨k0,k1,k2,k3,k4,k5,k6,k7⟩:=cells8 hN
 clear hN
 go_wp2
 refine bodyPost_ret (v:=.tuple #[.agg #[F TB z.t.length tb,F OB z.o.length ob,O U z.gt,O U z.sd,O U z.ms,xh l.D,xh l.P,O U l.n],xh (bM z.sd)]) (by simp [results,Tryz.results89,go_sem, *]) rfl (bv.mk HT.out (.inr ⟨TB,tb,OB,ob,rfl,xJ,yk⟩) hD)
set_option maxRecDepth 100000 in
theorem uJ (x:aN) (l:Lg) (st pe va:Int) (w:World) (h:aQ w w.heap.size x) (xA:x.t.length≤x.tc) (z:Oc) (hN:gy x.c ⟨5,st,pe,va⟩=some z) :
  Calls xi 89 #[aK x l,.agg #[O U 5,O U st,O U pe,O U va]] w (bv w x l (some (z,bM z.ms))):=by
 have L1:=((ai.new w 42 #[F x.TA x.t.length x.tc,F x.OA x.o.length x.oc,O U x.gt,O U x.sd,O U x.ms,xh l.D,xh l.P,O U l.n]).alloc (.cells #[O U 5,O U st,O U pe,O U va] 112)).alloc (.cells #[F none 0 0,F none 0 0,O U 0,O U 0,O U 0,xh ⟨#[]⟩,xh ⟨#[]⟩,O U 0] 42)
 have L2:=(ai.new1 w (.cells #[F x.TA x.t.length x.tc,F x.OA x.o.length x.oc,O U x.gt,O U x.sd,O U x.ms,xh l.D,xh l.P,O U l.n] 42) 112 #[O U 5,O U st,O U pe,O U va]).alloc (.cells #[F none 0 0,F none 0 0,O U 0,O U 0,O U 0,xh ⟨#[]⟩,xh ⟨#[]⟩,O U 0] 42)
 have L3:=ai.new2 w (.cells #[F x.TA x.t.length x.tc,F x.OA x.o.length x.oc,O U x.gt,O U x.sd,O U x.ms,xh l.D,xh l.P,O U l.n] 42) (.cells #[O U 5,O U st,O U pe,O U va] 112) 42 #[F none 0 0,F none 0 0,O U 0,O U 0,O U 0,xh ⟨#[]⟩,xh ⟨#[]⟩,O U 0]
 have b1:=bZ w (.cells #[F x.TA x.t.length x.tc,F x.OA x.o.length x.oc,O U x.gt,O U x.sd,O U x.ms,xh l.D,xh l.P,O U l.n] 42)
 have b2:=b1.alloc b1.size (.cells #[O U 5,O U st,O U pe,O U va] 112)
 have b3:=b2.alloc b2.size (.cells #[F none 0 0,F none 0 0,O U 0,O U 0,O U 0,xh ⟨#[]⟩,xh ⟨#[]⟩,O U 0] 42)
 have hW:=h.up b3 nR
 have xR:w.heap.size≤w.heap.size+1+1:=oM
 clear b1 b2 h
 have cS:=fun W hR=>jx x ⟨5,st,pe,va⟩ W hR xA
 have hz:=fL hN
 rw [hN] at cS
 clear hN
 have GZ:bK (z.at none 0 none 0):=bu.1 hz.1
 have HT:Hid (jW (some (z,bM z.ms))=bM z.ms):=rfl
 go_enter Tryz.func89,Tryz.ntmps89
 go_wp2_with fail
 generalize (((w.alloc (.cells #[F x.TA x.t.length x.tc,F x.OA x.o.length x.oc,O U x.gt,O U x.sd,O U x.ms,xh l.D,xh l.P,O U l.n] 42)).alloc (.cells #[O U 5,O U st,O U pe,O U va] 112)).alloc (.cells #[F none 0 0,F none 0 0,O U 0,O U 0,O U 0,xh ⟨#[]⟩,xh ⟨#[]⟩,O U 0] 42))=W at L1 L2 L3 b3 hW ⊢
 refine (cS W hW).mono ?_
 rintro e W1 ⟨TA,tc,OA,oc,rfl,hT,hO,hb⟩
 simp only [cQ,Option.getD_some,Option.isSome_some,Oc.at,aN.val] at hT hO ⊢
 go_upto_region 4 with fail
 have xo:=(Below.refl W1.heap.size W1).alloc nR (.cells #[F TA z.t.length tc,F OA z.o.length oc,O U z.gt,O U z.sd,O U z.ms] 40)
 have xn:=av hb xo
 have J1:=L1.below xn L1.lt
 have J2:=L2.below xn L2.lt
 have J3:=L3.below xn L3.lt
 have J6:=ai.new W1 40 #[F TA z.t.length tc,F OA z.o.length oc,O U z.gt,O U z.sd,O U z.ms]
 have b4:=av b3 xn
 have yy:=ag (ac hT xo) b3.size
 have yz:=ag (ac hO xo) b3.size
 have g26:w.heap.size+1+1 < W1.heap.size:=jL L3.lt hb.size
 clear xo xn hb hT hO L1 L2 L3 b3
 generalize W1.alloc (.cells #[F TA z.t.length tc,F OA z.o.length oc,O U z.gt,O U z.sd,O U z.ms] 40)=W2 at J1 J2 J3 J6 b4 yy yz ⊢
 generalize W1.heap.size=g6 at J6 g26 ⊢
 obtain ⟨c0,c1,c2,c3,c4,c5,c6,c7⟩:=cells8 J1
 go_upto_region 5 with fail
 clear c0 c1 c2 c3 c4 c5 c6 c7
 have xo:=(Below.refl W2.heap.size W2).alloc nR (.cells #[F x.TA x.t.length x.tc,F x.OA x.o.length x.oc,O U x.gt,O U x.sd,O U x.ms,xh l.D,xh l.P,O U l.n] 42)
 have K1:=J1.below xo J1.lt
 have K2:=J2.below xo J2.lt
 have K3:=J3.below xo J3.lt
 have K6:=J6.below xo J6.lt
 have K8:=ai.new W2 42 #[F x.TA x.t.length x.tc,F x.OA x.o.length x.oc,O U x.gt,O U x.sd,O U x.ms,xh l.D,xh l.P,O U l.n]
 have b5:=b4.trans (xo.mono b4.size)
 have Ag:=ac yy xo
 have Ah:=ac yz xo
 have g68:g6 < W2.heap.size:=J6.lt
 clear xo J1 J2 J3 J6 b4 yy yz
 generalize W2.alloc (.cells #[F x.TA x.t.length x.tc,F x.OA x.o.length x.oc,O U x.gt,O U x.sd,O U x.ms,xh l.D,xh l.P,O U l.n] 42)=W3 at K1 K2 K3 K6 K8 b5 Ag Ah ⊢
 generalize W2.heap.size=g8 at K8 g68 ⊢
 have xP:w.heap.size≤g8:=oM
 obtain ⟨p0,p1,p2,p3,p4⟩:=cells5 K6
 obtain ⟨q0,q1,q2,q3,q4,q5,q6,q7⟩:=cells8 K8
 obtain ⟨f0,f1,f2,f3,f4,f5,f6,f7⟩:=frz8 K8
 go_upto_region 6 with fail
 obtain ⟨W4,DA,M8,b6,gr,OT⟩:=jh K8 b5 xP (F TA z.t.length tc) (F OA z.o.length oc) (O U z.gt) (O U z.sd) (O U z.ms)
 have M1:=OT _ _ _ oM K1
 have M2:=OT _ _ _ oM K2
 have M3:=OT _ _ _ oM K3
 have M6:=OT _ _ _ oM K6
 have hT:=ak Ag K8 eZ gr
 have hO:=ak Ah K8 fa gr
 clear p0 p1 p2 p3 p4 q0 q1 q2 q3 q4 q5 q6 q7 f0 f1 f2 f3 f4 K1 K2 K3 K6 K8 Ag Ah b5 gr OT
 rw [DA.out]
 clear DA
 have zQ:aQ W4 W4.heap.size (z.at TA tc OA oc):=⟨an hT,an hO⟩
 obtain ⟨s0,s1,s2,s3⟩:=cells4 M2
 obtain ⟨p0,p1,p2,p3,p4⟩:=cells5 M6
 have hn:=fun W=>cy z.ms W GZ.m.1 (by have:=GZ.m.2; have e:(z.at none 0 none 0).ms=z.ms:=rfl; rw [e] at this; omega)
 clear zQ M1 M2
 go_wp2_with fail
 refine al (Sw 4 (fun W9=>Below W4.heap.size W4 W9) (fun W9=>Below w.heap.size w W9∧cn W9 w.heap.size (w.heap.size+1+1) z l)) (fun i w1 w2=>i ∉ [4]→Below w1.heap.size w1 w2) kZ kZ kZ (Sw.start jB.drew) ?_
 simp only [ax,Act.put,sA,gs0,gs1,Nat.zero_add,Nat.reduceAdd]
 refine aa _ (vb0C8 M8) ?_
 refine aa _ vb0 ?_
 refine aa _ (vb1c1 1 M6 4) ?_
 refine aa (xh (bM z.ms)) (fun vs L9 w9 xl xj hB K9 xk=>?_) ?_
 next =>
  replace xj:=sb xj xl
  have d2:=fe hB 2
  simp only [d2] at xk ⊢
  go_simp
  refine (hn w9).mono ?_
  rintro en w8 ⟨rfl,xm⟩
  exact xk _ _ rfl (Sw.stay xl kZ dD (xj.trans (xm.mono xj.size))) (fun _=>xm)
 refine aa (undef) (fun vs L9 w9 xl xj hB K9 xk=>?_) ?_
 next =>
  replace xj:=xj.here xl
  have d0:=fe hB 0
  simp only [d0] at xk ⊢
  have Lr:=M3.below xj M3.lt
  obtain ⟨z0,z1,z2,z3,z4,z5,z6,z7⟩:=cells8 Lr
  obtain ⟨f0,f1,f2,f3,f4,f5,f6,f7⟩:=frz8 Lr
  have xO:=jZ (cn.put (y:=z) (l:=l) Lr (ac hT xj) (ac hO xj))
  have yl:=jZ (eW (g:=(w.heap.size+1+1)) ((b6).trans (xj.mono (b6).size)) xR (F TA z.t.length tc) (F OA z.o.length oc) (O U z.gt) (O U z.sd) (O U z.ms) (xh l.D) (xh l.P) (O U l.n))
  clear Lr
  go_simp
  exact xk _ _ rfl (Sw.turn ⟨yl.out,xO.out⟩) nq
 refine aa _ (va1 3) ?_
 refine au fun vs L9 w9 xv xj hB=>?_
 replace xj:=xj.done xv dD
 have dl:=ah.eq (hB 5 _ rfl rfl dD)
 simp only [dl]
 clear hB dl
 obtain ⟨hD,TB,tb,OB,ob,hN,xJ,yk⟩:=xj
 obtain ⟨k0,k1,k2,k3,k4,k5,k6,k7⟩:=cells8 hN
 clear hN
 go_wp2
 refine bodyPost_ret (v:=.tuple #[.agg #[F TB z.t.length tb,F OB z.o.length ob,O U z.gt,O U z.sd,O U z.ms,xh l.D,xh l.P,O U l.n],xh (bM z.ms)]) (by simp [results,Tryz.results89,go_sem, *]) rfl (bv.mk HT.out (.inr ⟨TB,tb,OB,ob,rfl,xJ,yk⟩) hD)
set_option maxRecDepth 100000 in
theorem uK (x:aN) (l:Lg) (kd st pe va:Int) (w:World) (h:aQ w w.heap.size x) (xA:x.t.length≤x.tc) (z:Oc) (hN:gy x.c ⟨kd,st,pe,va⟩=some z) (AA:kd ≠ 1) (LK:kd ≠ 4) (LL:kd ≠ 5) :
  Calls xi 89 #[aK x l,.agg #[O U kd,O U st,O U pe,O U va]] w (bv w x l (some (z,eH z.off st))):=by
 have L1:=((ai.new w 42 #[F x.TA x.t.length x.tc,F x.OA x.o.length x.oc,O U x.gt,O U x.sd,O U x.ms,xh l.D,xh l.P,O U l.n]).alloc (.cells #[O U kd,O U st,O U pe,O U va] 112)).alloc (.cells #[F none 0 0,F none 0 0,O U 0,O U 0,O U 0,xh ⟨#[]⟩,xh ⟨#[]⟩,O U 0] 42)
 have L2:=(ai.new1 w (.cells #[F x.TA x.t.length x.tc,F x.OA x.o.length x.oc,O U x.gt,O U x.sd,O U x.ms,xh l.D,xh l.P,O U l.n] 42) 112 #[O U kd,O U st,O U pe,O U va]).alloc (.cells #[F none 0 0,F none 0 0,O U 0,O U 0,O U 0,xh ⟨#[]⟩,xh ⟨#[]⟩,O U 0] 42)
 have L3:=ai.new2 w (.cells #[F x.TA x.t.length x.tc,F x.OA x.o.length x.oc,O U x.gt,O U x.sd,O U x.ms,xh l.D,xh l.P,O U l.n] 42) (.cells #[O U kd,O U st,O U pe,O U va] 112) 42 #[F none 0 0,F none 0 0,O U 0,O U 0,O U 0,xh ⟨#[]⟩,xh ⟨#[]⟩,O U 0]
 have b1:=bZ w (.cells #[F x.TA x.t.length x.tc,F x.OA x.o.length x.oc,O U x.gt,O U x.sd,O U x.ms,xh l.D,xh l.P,O U l.n] 42)
 have b2:=b1.alloc b1.size (.cells #[O U kd,O U st,O U pe,O U va] 112)
 have b3:=b2.alloc b2.size (.cells #[F none 0 0,F none 0 0,O U 0,O U 0,O U 0,xh ⟨#[]⟩,xh ⟨#[]⟩,O U 0] 42)
 have hW:=h.up b3 nR
 have xR:w.heap.size≤w.heap.size+1+1:=oM
 clear b1 b2 h
 have cS:=fun W hR=>jx x ⟨kd,st,pe,va⟩ W hR xA
 have hz:=fL hN
 rw [hN] at cS
 clear hN
 have GZ:bK (z.at none 0 none 0):=bu.1 hz.1
 have HT:Hid (jW (some (z,eH z.off st))=eH z.off st):=rfl
 have n1:(kd == 1)=false:=beq_false_of_ne AA
 have n4:(kd == 4)=false:=beq_false_of_ne LK
 have n5:(kd == 5)=false:=beq_false_of_ne LL
 clear AA LK LL
 go_enter Tryz.func89,Tryz.ntmps89
 go_wp2_with fail
 generalize (((w.alloc (.cells #[F x.TA x.t.length x.tc,F x.OA x.o.length x.oc,O U x.gt,O U x.sd,O U x.ms,xh l.D,xh l.P,O U l.n] 42)).alloc (.cells #[O U kd,O U st,O U pe,O U va] 112)).alloc (.cells #[F none 0 0,F none 0 0,O U 0,O U 0,O U 0,xh ⟨#[]⟩,xh ⟨#[]⟩,O U 0] 42))=W at L1 L2 L3 b3 hW ⊢
 refine (cS W hW).mono ?_
 rintro e W1 ⟨TA,tc,OA,oc,rfl,hT,hO,hb⟩
 simp only [cQ,Option.getD_some,Option.isSome_some,Oc.at,aN.val] at hT hO ⊢
 go_upto_region 4 with fail
 have xo:=(Below.refl W1.heap.size W1).alloc nR (.cells #[F TA z.t.length tc,F OA z.o.length oc,O U z.gt,O U z.sd,O U z.ms] 40)
 have xn:=av hb xo
 have J1:=L1.below xn L1.lt
 have J2:=L2.below xn L2.lt
 have J3:=L3.below xn L3.lt
 have J6:=ai.new W1 40 #[F TA z.t.length tc,F OA z.o.length oc,O U z.gt,O U z.sd,O U z.ms]
 have b4:=av b3 xn
 have yy:=ag (ac hT xo) b3.size
 have yz:=ag (ac hO xo) b3.size
 have g26:w.heap.size+1+1 < W1.heap.size:=jL L3.lt hb.size
 clear xo xn hb hT hO L1 L2 L3 b3
 generalize W1.alloc (.cells #[F TA z.t.length tc,F OA z.o.length oc,O U z.gt,O U z.sd,O U z.ms] 40)=W2 at J1 J2 J3 J6 b4 yy yz ⊢
 generalize W1.heap.size=g6 at J6 g26 ⊢
 obtain ⟨c0,c1,c2,c3,c4,c5,c6,c7⟩:=cells8 J1
 go_upto_region 5 with fail
 clear c0 c1 c2 c3 c4 c5 c6 c7
 have xo:=(Below.refl W2.heap.size W2).alloc nR (.cells #[F x.TA x.t.length x.tc,F x.OA x.o.length x.oc,O U x.gt,O U x.sd,O U x.ms,xh l.D,xh l.P,O U l.n] 42)
 have K1:=J1.below xo J1.lt
 have K2:=J2.below xo J2.lt
 have K3:=J3.below xo J3.lt
 have K6:=J6.below xo J6.lt
 have K8:=ai.new W2 42 #[F x.TA x.t.length x.tc,F x.OA x.o.length x.oc,O U x.gt,O U x.sd,O U x.ms,xh l.D,xh l.P,O U l.n]
 have b5:=b4.trans (xo.mono b4.size)
 have Ag:=ac yy xo
 have Ah:=ac yz xo
 have g68:g6 < W2.heap.size:=J6.lt
 clear xo J1 J2 J3 J6 b4 yy yz
 generalize W2.alloc (.cells #[F x.TA x.t.length x.tc,F x.OA x.o.length x.oc,O U x.gt,O U x.sd,O U x.ms,xh l.D,xh l.P,O U l.n] 42)=W3 at K1 K2 K3 K6 K8 b5 Ag Ah ⊢
 generalize W2.heap.size=g8 at K8 g68 ⊢
 have xP:w.heap.size≤g8:=oM
 obtain ⟨p0,p1,p2,p3,p4⟩:=cells5 K6
 obtain ⟨q0,q1,q2,q3,q4,q5,q6,q7⟩:=cells8 K8
 obtain ⟨f0,f1,f2,f3,f4,f5,f6,f7⟩:=frz8 K8
 go_upto_region 6 with fail
 obtain ⟨W4,DA,M8,b6,gr,OT⟩:=jh K8 b5 xP (F TA z.t.length tc) (F OA z.o.length oc) (O U z.gt) (O U z.sd) (O U z.ms)
 have M1:=OT _ _ _ oM K1
 have M2:=OT _ _ _ oM K2
 have M3:=OT _ _ _ oM K3
 have M6:=OT _ _ _ oM K6
 have hT:=ak Ag K8 eZ gr
 have hO:=ak Ah K8 fa gr
 clear p0 p1 p2 p3 p4 q0 q1 q2 q3 q4 q5 q6 q7 f0 f1 f2 f3 f4 K1 K2 K3 K6 K8 Ag Ah b5 gr OT
 rw [DA.out]
 clear DA
 have zQ:aQ W4 W4.heap.size (z.at TA tc OA oc):=⟨an hT,an hO⟩
 obtain ⟨s0,s1,s2,s3⟩:=cells4 M2
 obtain ⟨p0,p1,p2,p3,p4⟩:=cells5 M6
 have hn:=fun W hR=>nf (z.at TA tc OA oc) st W hR
 have e9:(kw (z.at TA tc OA oc) st).getD da=eH z.off st:=by
  unfold kw
  rw [show (ap (z.at TA tc OA oc) && aS (z.at TA tc OA oc).t st)=true from by rw [show ap (z.at TA tc OA oc)=true from hz.1]; exact hz.2]
  rfl
 rw [e9] at hn
 clear e9
 go_wp2_with fail
 refine al (Sw 5 (fun W9=>Below W4.heap.size W4 W9) (fun W9=>Below w.heap.size w W9∧cn W9 w.heap.size (w.heap.size+1+1) z l)) (fun i w1 w2=>i ∉ [5]→Below w1.heap.size w1 w2) kZ kZ kZ (Sw.start jB.drew) ?_
 simp only [ax,Act.put,sA,gs0,gs1,Nat.zero_add,Nat.reduceAdd]
 refine aa _ (vb0C8 M8) ?_
 refine aa _ (vb0C5 M6) ?_
 refine aa _ vb0 ?_
 refine aa _ (vb1c1 2 M2 1) ?_
 refine aa (xh (eH z.off st)) (fun vs L9 w9 xl xj hB K9 xk=>?_) ?_
 next =>
  replace xj:=sb xj xl
  have d1:=fe hB 1
  have d3:=fe hB 3
  simp only [d1,d3] at xk ⊢
  go_simp
  refine (hn w9 (zQ.then xj)).mono ?_
  rintro en w8 ⟨rfl,xm⟩
  exact xk _ _ rfl (Sw.stay xl kZ dD (xj.trans (xm.mono xj.size))) (fun _=>xm)
 refine aa (undef) (fun vs L9 w9 xl xj hB K9 xk=>?_) ?_
 next =>
  replace xj:=xj.here xl
  have d0:=fe hB 0
  simp only [d0] at xk ⊢
  have Lr:=M3.below xj M3.lt
  obtain ⟨z0,z1,z2,z3,z4,z5,z6,z7⟩:=cells8 Lr
  obtain ⟨f0,f1,f2,f3,f4,f5,f6,f7⟩:=frz8 Lr
  have xO:=jZ (cn.put (y:=z) (l:=l) Lr (ac hT xj) (ac hO xj))
  have yl:=jZ (eW (g:=(w.heap.size+1+1)) ((b6).trans (xj.mono (b6).size)) xR (F TA z.t.length tc) (F OA z.o.length oc) (O U z.gt) (O U z.sd) (O U z.ms) (xh l.D) (xh l.P) (O U l.n))
  clear Lr
  go_simp
  exact xk _ _ rfl (Sw.turn ⟨yl.out,xO.out⟩) nq
 refine aa _ (va1 4) ?_
 refine au fun vs L9 w9 xv xj hB=>?_
 replace xj:=xj.done xv dD
 have dl:=ah.eq (hB 6 _ rfl rfl dD)
 simp only [dl]
 clear hB dl
 obtain ⟨hD,TB,tb,OB,ob,hN,xJ,yk⟩:=xj
 obtain ⟨k0,k1,k2,k3,k4,k5,k6,k7⟩:=cells8 hN
 clear hN
 go_wp2
 refine bodyPost_ret (v:=.tuple #[.agg #[F TB z.t.length tb,F OB z.o.length ob,O U z.gt,O U z.sd,O U z.ms,xh l.D,xh l.P,O U l.n],xh (eH z.off st)]) (by simp [results,Tryz.results89,go_sem, *]) rfl (bv.mk HT.out (.inr ⟨TB,tb,OB,ob,rfl,xJ,yk⟩) hD)
theorem fX (x:aN) (l:Lg) (s:de) (w:World) (h:aQ w w.heap.size x) (xA:x.t.length≤x.tc) :
  Calls xi 89 #[aK x l,s.val] w (bv w x l (cc x s)):=by
 obtain ⟨kd,st,pe,va⟩:=s
 unfold cc
 cases hN:gy x.c ⟨kd,st,pe,va⟩ with
 | none=>exact uH x l kd st pe va w h xA hN
 | some z =>
  show Calls _ _ _ _ (bv w x l (some (z,iK z.off ⟨kd,st,pe,va⟩)))
  unfold iK
  by_cases h1:kd=1
  ·subst h1; exact vL x l st pe va w h xA z hN
  ·by_cases h4:kd=4
   ·subst h4; exact uI x l st pe va w h xA z hN
   ·by_cases h5:kd=5
    ·subst h5; exact uJ x l st pe va w h xA z hN
    ·simp only [h1,h4,h5,if_false]
     exact uK x l kd st pe va w h xA z hN h1 h4 h5
def kN (w:World) (g:Nat):Prop:=∃ ev,w.cell? ⟨g,0,none⟩=some ev∧(ev=.nilIface ∨ ∃ te pe,ev=.iface te pe)
structure LW (w:World):Prop where
 tab:jj w
 syn:kN w 2
 rng:kN w 3
 ml:∃ m:Int,w.cell? ⟨0,0,none⟩=some (O U m)
theorem tZ {w:World} {a:Addr} {v:Value} (h:w.cell? a=some v):a.block < w.heap.size:=by
 rcases Nat.lt_or_ge a.block w.heap.size with h1 | h1
 ·exact h1
 ·unfold World.cell? at h; simp [Array.getElem?_eq_none h1] at h
theorem kN.then {w w' : World} {g:Nat} (h:kN w g) (hb:Below w.heap.size w w'):kN w' g:=by
 obtain ⟨ev,h1,h2⟩:=h
 exact ⟨ev,(hb.cell (tZ h1)).trans h1,h2⟩
theorem LW.then {w w' : World} (h:LW w) (hb:Below w.heap.size w w'):LW w':=by
 obtain ⟨h1,h2,h3,m,h4⟩:=h
 exact ⟨h1.then hb,h2.then hb,h3.then hb,m,(hb.cell (tZ h4)).trans h4⟩
theorem LW.at {w:World} (h:LW w) (q:aq w.heap.size w):LW q.val:=h.then q.below
theorem vM (ps:List (List UInt8)) (k:Nat) (h:k < ps.length):(ex ps)[k]?=some (xh ⟨(ps[k]).toArray⟩):=by
 unfold ex; rw [List.getElem?_map,List.getElem?_eq_getElem h]; rfl
theorem iu (ps:List (List UInt8)) (rest:List Value) (k:Nat) (h:k < ps.length):(ex ps++rest)[k]?=some (xh ⟨(ps[k]).toArray⟩):=by
 rw [List.getElem?_append_left (by rw [uy]; omega)]; exact vM ps k h
theorem lY (s:ByteArray) (b:UInt8) (w:World) (hs:s.size≤100000000) :
  Calls xi 58 #[xh s,.int .u8 b.toNat] w fun e w'=>∃ (g c:Nat) (rest:List Value),e=.returned (F (some ⟨g,0,none⟩) (aH b (bl s)).length c)∧ai w' g 9 (ex (aH b (bl s))++rest)∧w.heap.size≤g∧Below w.heap.size w w':=by
 refine (iZ s b w hs).mono ?_
 rintro e w' ⟨A,c,rfl,ho,hb⟩
 obtain ⟨_,_,⟨h1,h2⟩ | ⟨g,rest,hA,hg,hL⟩⟩:=cq.of ho
 ·exact absurd (List.eq_nil_of_length_eq_zero h2) (lU b _ _)
 ·subst hA; exact ⟨g,c,rest,rfl,hL,hg,hb⟩
theorem kx {b:UInt8} {s:List UInt8} {n:Nat} (h:s.length≤n):∀ t ∈ aH b s,t.length≤n:=fun t ht=>by
 have:=my s [] ht; simp at this; omega
theorem ky {b:UInt8} {s:List UInt8} {n:Nat} (h:s.length≤n):1≤(aH b s).length∧(aH b s).length≤n+1:=by
 have h1:=gF b s []
 have h3:0 < (dF b [] s).length:=List.length_pos_iff.2 (lU b s [])
 unfold aH; omega
theorem wo (v:ByteArray) (l:List UInt8):(v.toList == l)=decide (bl v=l):=by
 rw [ByteArray.toList_eq]; unfold bl
 by_cases h:v.data.toList=l <;> simp [h]
theorem jd {n lo hi:Int} : bX n lo hi=true ↔ lo≤n∧n≤hi:=by simp [bX]
theorem mG (n:Int) (w:World) (h0 : -1000000000≤n) (h1:n≤1000000000) :
  Calls xi 71 #[O U n] w fun e w'=>e=.returned (xh ⟨(Lib.itoa n).toArray⟩)∧Below w.heap.size w w':=by
 by_cases hn:n < 0
 ·have HC:Hid (∀ W:World,Calls xi 71 #[O U (-n)] W fun e w'=>e=.returned (xh ⟨(Lib.itoa (-n)).toArray⟩)∧Below W.heap.size W w'):=fun W=>cy (-n) W oM oM
  have HI:Hid (Lib.itoa n=45 :: Lib.itoa (-n)):=by
   unfold Lib.itoa Hid
   rw [if_pos hn,if_neg oM,show n.natAbs=(-n).toNat by omega]
  have hz:=cU (n:=-n) oM oM
  obtain ⟨t,ht⟩ : ∃ t:ByteArray,t=⟨(Lib.itoa (-n)).toArray⟩:=⟨_,rfl⟩
  rw [← ht] at HC hz
  have HT:=jZ ht
  clear ht
  have hw:IntKind.i64.wrap (-n) = -n:=IntWalk.i64_in _ oM
  go_enter Tryz.func71,Tryz.ntmps71
  go_wp2_with fail
  refine (HC.out _).mono ?_
  rintro e w1 ⟨rfl,hb⟩
  go_wp2_with fail
  go_ret
  refine ⟨?_,hb⟩
  rw [HI.out]
  congr 1
  rw [HT.out,ByteArray.mk_append_mk]; rfl
 ·exact cy n w oM h1
def jy (s:ByteArray) (w:World) (e:Ending) (w' : World):Prop:=e=.returned (.tuple #[O U ((df (bl s)).getD 0),.bool (df (bl s)).isSome])∧Below w.heap.size w w'
theorem oL (b:UInt8):∀ (fuel:Nat) (l:List UInt8),l.length < fuel→Lib.splitK [b] 0 (Lib.countFrom [b] fuel l) l=aH b l∧(aH b l).length=Lib.countFrom [b] fuel l+1
 | 0,l,h=>absurd h oM
 | fuel+1,l,h=>by
  rcases jO l b with ⟨h1,h2⟩ | ⟨h1,h2⟩
  ·have hc:Lib.countFrom [b] (fuel+1) l=0:=by unfold Lib.countFrom; rw [h2]; rfl
   rw [hc,jR h1]; exact ⟨rfl,rfl⟩
  ·have hp:=db h1
   have hl:=congrArg List.length hp
   simp only [List.length_append,List.length_cons,List.length_drop] at hl
   obtain ⟨r,hr⟩ : ∃ r,l.drop ((cJ b l).length+1)=r:=⟨_,rfl⟩
   have Ik:r.length < fuel:=by rw [← hr,List.length_drop]; omega
   obtain ⟨i1,i2⟩:=oL b fuel r Ik
   have xw : ¬ ((((cJ b l).length:Nat):Int) == -1)=true:=fun e=>by have:=beq_iff_eq.1 e; omega
   have hc:Lib.countFrom [b] (fuel+1) l=Lib.countFrom [b] fuel r+1:=by
    rw [Lib.countFrom,h2,if_neg xw,Int.toNat_natCast,show ([b] : List UInt8).length=1 from rfl,hr]; omega
   have hs:aH b l=cJ b l :: aH b r:=by
    rw [← hr]
    have:=pG (r:=l.drop ((cJ b l).length+1)) (fK b l)
    rw [← hp] at this; exact this
   rw [hc,hs]
   refine ⟨?_,by rw [List.length_cons,i2]⟩
   rw [Lib.splitK,h2,if_neg xw,Int.toNat_natCast,show ([b] : List UInt8).length=1 from rfl,hr,i1,Nat.add_zero,oe]
theorem qA (s:ByteArray) (b:UInt8):((Lib.splitB ⟨#[b]⟩ 0 (Lib.countB s ⟨#[b]⟩) s).map Value.string)=ex (aH b (bl s))∧Lib.countB s ⟨#[b]⟩+1=(aH b (bl s)).length:=by
 have h1:=Lib.splitB_data ⟨#[b]⟩ 0 (Lib.countB s ⟨#[b]⟩) s
 have h2:Lib.countB s ⟨#[b]⟩=Lib.countFrom [b] ((bl s).length+1) (bl s):=by
  rfl
 obtain ⟨h3,h4⟩:=oL b ((bl s).length+1) (bl s) oM
 refine ⟨?_,by rw [h2,h4]⟩
 have h5:(Lib.splitB ⟨#[b]⟩ 0 (Lib.countB s ⟨#[b]⟩) s).map bl=aH b (bl s):=by
  rw [← h3,← h2]; exact h1
 rw [← h5,ex,List.map_map]
 exact List.map_congr_left fun x _=>congrArg Value.string (dU rfl)
theorem uX (s:ByteArray) (b:UInt8) (w:World) (hs:s.size≤1000000000) (hL:LW w) :
  Calls xi 59 #[xh s,xh ⟨#[b]⟩] w fun e w'=>e=.returned (F (some ⟨w.heap.size,0,none⟩) (aH b (bl s)).length (aH b (bl s)).length)∧ai w' w.heap.size 9 (ex (aH b (bl s)))∧Below w.heap.size w w':=by
 obtain ⟨m,hm⟩:=hL.ml
 obtain ⟨h1,h2⟩:=qA s b
 refine (Tryz.strings_Split s ⟨#[b]⟩ m w oM hm (Nat.le_refl 1)).mono ?_
 rintro e w' ⟨rfl,rfl⟩
 rw [h1,h2]
 have:=ai.new w 9 (ex (aH b (bl s))).toArray
 exact ⟨rfl,by simpa using this,bZ w _⟩
theorem nD (s:ByteArray) (w:World) (hs:s.size≤4000) :
  Calls xi 32 #[xh s,xh ⟨#[10]⟩] w fun e w'=>∃ (g c:Nat) (rest:List Value),e=.returned (.tuple #[F (some ⟨g,0,none⟩) (aH 10 (bl s)).length c,.bool true])∧ai w' g 9 (ex (aH 10 (bl s))++rest)∧w.heap.size≤g∧Below w.heap.size w w':=by
 have h1 : ¬ (4000:Int) < (s.size:Int):=oM
 have h2:((⟨#[10]⟩ : ByteArray).size:Int)=1:=rfl
 have HS:=jZ (lY s 10 w oM)
 clear hs
 go_enter Tryz.func32,Tryz.ntmps32
 go_wp2_with fail
 refine HS.out.mono ?_
 rintro e w1 ⟨g,c,rest,rfl,hL,hg,hb⟩
 go_wp2
 refine bodyPost_ret (v:=.tuple #[F (some ⟨g,0,none⟩) (aH 10 (bl s)).length c,.bool true]) (by simp [results,Tryz.results32,go_sem, *]) rfl ?_
 exact ⟨g,c,rest,rfl,hL,hg,hb⟩
end Go.Proofs.YtoeoimhemojdeaaGreatDoor
