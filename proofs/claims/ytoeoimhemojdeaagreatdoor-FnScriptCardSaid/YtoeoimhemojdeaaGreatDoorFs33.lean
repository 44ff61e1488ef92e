/- Lemmas. -/
import Derived.Lib.Join
import Derived.Deep.DeepCutAuto
import Derived.Test.YtoeoimhemojdeaaGreatDoorFs30
import Derived.Test.YtoeoimhemojdeaaGreatDoorFs32

set_option linter.unusedVariables false
set_option linter.unusedSimpArgs false
set_option maxHeartbeats 8000000
open Go.Value renaming int → O, slice → F, string → wG
open Go.IntKind renaming i64 → U
open Go.Proofs.Tryz renaming prog → wH

namespace Go.Proofs.YtoeoimhemojdeaaGreatDoor
open Go.RowKit
noncomputable def dY:List (List UInt8)→Option (List Int)
 | []=>some []
 | t :: l=>match dh t with
  | none=>none
  | some n=>(dY l).map (n :: ·)
theorem pB:∀ {l:List (List UInt8)} {ns:List Int},dY l=some ns→ns.length=l.length
 | [],ns,h=>by simp only [dY,Option.some.injEq] at h; subst h; rfl
 | t :: l,ns,h=>by
  unfold dY at h
  cases hn:dh t with
  | none=>rw [hn] at h; cases h
  | some n =>
   rw [hn] at h
   cases hl:dY l with
   | none=>rw [hl] at h; cases h
   | some ms =>
    rw [hl] at h
    simp only [Option.map_some,Option.some.injEq] at h
    subst h
    simp [pB hl]
noncomputable def gG (acc:List Int) (l:List (List UInt8)):Option (List Int):=(dY l).map (acc++·)
theorem oq (acc:List Int):gG acc []=some acc:=by simp [gG,dY]
theorem m6 (l:List (List UInt8)):gG [] l=dY l:=by
 unfold gG; cases dY l <;> simp
theorem m7 {acc:List Int} {l:List (List UInt8)} {k:Nat} (h:k < l.length) (hn:dh l[k]=none):gG acc (l.drop k)=none:=by
 rw [List.drop_eq_getElem_cons h]; unfold gG dY; rw [hn]; rfl
theorem m8 {acc:List Int} {l:List (List UInt8)} {k:Nat} {n:Int} (h:k < l.length) (hn:dh l[k]=some n):gG acc (l.drop k)=gG (acc++[n]) (l.drop (k+1)):=by
 rw [List.drop_eq_getElem_cons h]; unfold gG; rw [dY,hn]
 cases dY (l.drop (k+1)) <;> simp
def fA (l:List Int):ByteArray:=if l.length=0 then ⟨#[110,111,110,101]⟩ else ⟨(Lib.join (l.map Lib.itoa) [32]).toArray⟩
def dy (x:aO) (s:ByteArray):Option ByteArray :=
 if s=⟨#[105,110]⟩ then some (bM (cJ x.t))
 else if s=⟨#[111,117,116]⟩ then some (bM (aW dp x.o))
 else if s=⟨#[103,111,116]⟩ then some (bM x.gt)
 else if s=⟨#[115,111,108,100]⟩ then some (bM x.sd)
 else if s=⟨#[109,105,115,115,101,100]⟩ then some (bM x.ms)
 else if s=⟨#[98,117,115,105,101,115,116]⟩ then (if dn x then some (bM (dN x)) else none)
 else none
def lj (x:aO) (n:Int):Option ByteArray:=if ao x && cg n 1 999 then some (fA (bC (ao x && cg n 1 999) (aT (fun r:ae=>decide (r.p=n)) ae.k x.o))) else none
def iy (x:aO) (n:Int):Option ByteArray:=if ao x && aS x.t n then some (fA (bC (ao x && aS x.t n) (aT (fun r:ae=>decide (r.k=n)) ae.p x.o))) else none
def kq (x:aO) (n:Int):Option ByteArray:=if ao x && aS x.t n then some (eI x n) else none
def gV (x:aO) (s:ByteArray) (n:Int):Option ByteArray :=
 if s=⟨#[97,116]⟩ then lj x n
 else if s=⟨#[119,105,116,104]⟩ then iy x n
 else if s=⟨#[116,101,120,116]⟩ then kq x n
 else none
def iz (z:aO) (s:df):ByteArray:=if s.kind=1 then bM (cJ z.t) else if s.kind=4 then bM z.sd else if s.kind=5 then bM z.ms else eI z s.stamp
def cZ (s:ByteArray) (a b:Int):Option df :=
 if s=⟨#[103,101,116]⟩ then some ⟨1,a,0,b⟩
 else if s=⟨#[109,105,115,115]⟩ then some ⟨5,a,b,0⟩
 else none
def dB (s:ByteArray) (a b c:Int):Option df :=
 if s=⟨#[115,104,111,119]⟩ then some ⟨2,a,b,c⟩
 else if s=⟨#[98,97,99,107]⟩ then some ⟨3,a,b,c⟩
 else if s=⟨#[115,101,108,108]⟩ then some ⟨4,a,b,c⟩
 else if s=⟨#[109,111,118,101]⟩ then some ⟨6,a,b,c⟩
 else none
def Oc.off (y:Oc):aO:=y.at none 0 none 0
def cc (x:aO) (s:df):Option (Oc × ByteArray):=(gq x.c s).map fun z=>(z,iz z.off s)
noncomputable def bH (x:aO) (w0:ByteArray):List Int→Option (Oc × ByteArray)
 | []=>(dy x w0).map (x.c,·)
 | [n]=>(gV x w0 n).map (x.c,·)
 | [a,b]=>(cZ w0 a b).bind (cc x)
 | [a,b,c]=>(dB w0 a b c).bind (cc x)
 | _=>none
def wd (l:List UInt8) (j:Nat):ByteArray:=⟨((aI 32 l).getD j []).toArray⟩
noncomputable def iZ (x:aO) (line:ByteArray):Option (Oc × ByteArray):=(dY ((aI 32 (bl line)).drop 1)).bind (bH x (wd (bl line) 0))
noncomputable def jl (x:aO) (line:ByteArray):ByteArray:=match iZ x line with
 | none=>⟨#[63]⟩
 | some r=>if 200 < r.2.size then ⟨#[108,111,110,103]⟩ else r.2
noncomputable def rn (x:aO) (line:ByteArray):Oc:=match iZ x line with
 | none=>x.c
 | some r=>r.1
noncomputable def gw (x:aO) (l:Lg) (line:ByteArray):ByteArray :=
 if dx x l then (if dA.ok ⟨line,⟨#[]⟩⟩ then (if l.n=60 then ⟨#[102,117,108,108]⟩ else jl x line) else ⟨#[98,97,100]⟩) else ⟨#[110,111]⟩
noncomputable def fD (x:aO) (l:Lg) (line:ByteArray):Oc :=
 if dx x l then (if dA.ok ⟨line,⟨#[]⟩⟩ then (if l.n=60 then x.c else rn x line) else x.c) else x.c
noncomputable def fS (x:aO) (l:Lg) (line:ByteArray):Lg :=
 if dx x l then (if dA.ok ⟨line,⟨#[]⟩⟩ then (if l.n=60 then l else cH l ⟨line,jl x line⟩) else l) else l
theorem wa {l:List UInt8} (h:(aI 32 l).length=1):wd l 0=⟨l.toArray⟩:=by
 obtain ⟨ps,h1,h2⟩:=gD 32 l
 have hp:ps = []:=by rw [h1] at h; simpa using h
 have hf:=h2.1 hp
 unfold wd
 rw [jC hf]; rfl
theorem jM (ts:List aq) (kd n:Int):aS (aj ts kd n) kd=true:=by
 unfold aS aj
 rw [List.any_eq_true]
 split
 ·rename_i hx
  obtain ⟨i,hi⟩:=gF hx
  obtain ⟨h1,h2⟩:=ig hi
  have e:(ay ts kd).toNat=i:=oM
  rw [e]
  refine ⟨_,List.mem_of_getElem? (i:=i) (by rw [List.getElem?_set_self h1]), ?_⟩
  rw [List.getD_eq_getElem?_getD,List.getElem?_eq_getElem h1]
  exact jD h2
 ·exact ⟨⟨kd,n⟩,sP,jD rfl⟩
theorem lk {r r' : Oc} (h:Oc.fin r=some r'):r'=r:=by
 unfold Oc.fin at h
 split at h
 ·injection h with h; exact h.symm
 ·cases h
theorem sC {y r:Oc} {s:df} (h:bj y s=some r):aS r.t s.stamp=true:=by
 have key : ¬ ¬ 0≤ay y.t s.stamp→aS y.t s.stamp=true:=fun h=>by rw [← dU]; exact jD oM
 unfold bj at h
 split at h
 ·rw [lk h]; exact jM _ _ _
 split at h
 ·cases h
 rename_i hT
 split at h
 ·rw [lk h]; exact jM _ _ _
 split at h
 ·cases h
 split at h
 ·rw [lk h]; exact jM _ _ _
 split at h
 ·split at h
  ·rw [lk h]; exact jM _ _ _
  ·rw [lk h]; exact key hT
 split at h
 ·rw [lk h]; exact key hT
 ·rw [lk h]; exact key hT
theorem fH {y r:Oc} {s:df} (h:gq y s=some r):r.good=true∧aS r.t s.stamp=true:=by
 unfold gq at h
 split at h
 ·exact ⟨lc h,sC h⟩
 ·cases h
theorem bK.inB {x:aO} (G:bK x):0≤cJ x.t∧cJ x.t≤1000000:=by
 have h1:=kx x.t 0 G.tall
 have h2:=G.tl
 change 0≤cJ x.t∧cJ x.t≤_ at h1
 omega
theorem bK.outB {x:aO} (G:bK x) (f:ae→Bool):0≤aW f x.o∧aW f x.o≤1000000:=by
 have h1:=fK f x.t x.o 0 G.oall
 have h2:=G.ol
 change 0≤aW f x.o∧aW f x.o≤_ at h1
 omega
theorem vk {x:aO} : 0≤dN x∧dN x≤1000000:=by
 by_cases h:dn x=true
 ·have:=(vj h).1
  rw [Bool.and_eq_true] at this
  have:=bV.1 this.2
  omega
 ·unfold dN; rw [if_neg h]; omega
theorem bW {s:ByteArray} {l:List UInt8} (h : ¬ s=⟨l.toArray⟩):(s.toList == l)=false:=by
 refine beq_false_of_ne fun e=>h (ee ?_)
 rw [← e,ByteArray.toList_eq]; rfl
def da:ByteArray:=⟨#[63]⟩
theorem gK (n:Int) (ok:Bool) (w:World) (h:ok=true→0≤n∧n≤1000000000) :
  Calls wH 137 #[O U n,.bool ok] w fun e w'=>e=.returned (wG (if ok then bM n else da))∧Below w.heap.size w w':=by
 cases ok
 ·go_enter Tryz.func137,Tryz.ntmps137
  go_wp2
  go_ret
  exact ⟨rfl,Below.refl _ _⟩
 ·have HN:=fun W=>bP n W (h rfl).1 (h rfl).2
  go_enter Tryz.func137,Tryz.ntmps137
  go_wp2_with fail
  refine (HN _).mono ?_
  rintro e w1 ⟨rfl,hb⟩
  go_wp2
  go_ret
  exact ⟨rfl,hb⟩
theorem m9 (x:aO) (kd:Int) (w:World) (h:aQ w w.heap.size x) :
  Calls wH 143 #[x.val,O U kd] w fun e w'=>e=.returned (wG ((kq x kd).getD da))∧Below w.heap.size w w':=by
 have b0:=bZ w (.cells #[F x.TA x.t.length x.tc,F x.OA x.o.length x.oc,O U x.gt,O U x.sd,O U x.ms] 40)
 have hc:=fun W hW=>mx x kd W hW
 have HT:Hid ((kq x kd).getD da=if (ao x && aS x.t kd)=true then eI x kd else da):=by unfold Hid kq; split <;> rfl
 obtain ⟨ok,wP⟩ : ∃ b,(ao x && aS x.t kd)=b:=⟨_,rfl⟩
 obtain ⟨tx,Ls⟩ : ∃ b,eI x kd=b:=⟨_,rfl⟩
 rw [wP,Ls] at hc HT
 clear wP Ls
 cases ok
 all_goals
  go_enter Tryz.func143,Tryz.ntmps143
  go_wp2_with fail
  refine (hc _ (h.up b0 nR)).mono ?_
  rintro e w1 ⟨rfl,hb⟩
  go_wp2
  go_ret
  exact ⟨by rw [HT.out]; rfl,av b0 hb⟩
def jm (l:List Int):List UInt8:=Lib.join (l.map Lib.itoa) [32]
theorem um (n:Int):jm [n]=Lib.itoa n:=by simp [jm,Lib.join_cons,Lib.joinTail]
theorem sD {l:List Int} {k:Nat} (h:k < l.length) (hk:0 < k):jm (l.take (k+1))=jm (l.take k)++[32]++Lib.itoa l[k]:=by
 have wT:l.take k ≠ []:=by
  intro e
  have h3:(l.take k).length=k:=by rw [List.length_take]; omega
  rw [e,List.length_nil] at h3; omega
 obtain ⟨a,t,ht⟩:=List.exists_cons_of_ne_nil wT
 rw [List.take_succ_eq_append_getElem h,ht]
 unfold jm
 simp [Lib.join_cons,Lib.joinTail]
theorem sE {l:List Int} (h:∀ n ∈ l,0≤n∧n≤1000000000):(jm l).length≤l.length * 101:=by
 have h1:∀ (m:List Int),(∀ n ∈ m,0≤n∧n≤1000000000)→(Lib.joinTail [32] (m.map Lib.itoa)).length≤m.length * 101:=by
  intro m
  induction m with
  | nil=>intro _; simp [Lib.joinTail]
  | cons a m ih =>
   intro hm
   have h2:=ih fun n hn=>hm n (List.mem_cons_of_mem _ hn)
   have h3:(⟨(Lib.itoa a).toArray⟩ : ByteArray).size≤100:=bD (hm a List.mem_cons_self).1 (hm a List.mem_cons_self).2
   have h4:(Lib.itoa a).length≤100:=by rw [← bo (Lib.itoa a),an]; exact h3
   have e:Lib.joinTail [32] ((a :: m).map Lib.itoa) = [32]++Lib.itoa a++Lib.joinTail [32] (m.map Lib.itoa):=by simp [Lib.joinTail]
   rw [e,List.length_append,List.length_append,List.length_cons,List.length_cons,List.length_nil]; omega
 cases l with
 | nil=>simp [jm,Lib.join_nil]
 | cons a l =>
  have h2:=h1 l fun n hn=>h n (List.mem_cons_of_mem _ hn)
  have h3:(⟨(Lib.itoa a).toArray⟩ : ByteArray).size≤100:=bD (h a List.mem_cons_self).1 (h a List.mem_cons_self).2
  have h4:(Lib.itoa a).length≤100:=by rw [← bo (Lib.itoa a),an]; exact h3
  unfold jm
  rw [List.map_cons,Lib.join_cons,List.length_append,List.length_cons]; omega
theorem sF {l:List Int} (h:0 < l.length):fA l=⟨(jm l).toArray⟩:=by unfold fA; rw [if_neg oM]; rfl
theorem na (A:Option Addr) (c:Nat) (l:List Int) (ok:Bool) (w:World) (h:iG w w.heap.size A l) (Cd:l.length≤8) (hr:∀ n ∈ l,0≤n∧n≤1000000000) :
  Calls wH 141 #[F A l.length c,.bool ok] w fun e w'=>e=.returned (wG (if ok then fA l else da))∧Below w.heap.size w w':=by
 have yn:=iG.ints h
 cases ok
 ·go_enter Tryz.func141,Tryz.ntmps141
  go_wp2
  go_ret
  exact ⟨rfl,Below.refl _ _⟩
 ·rcases Nat.eq_zero_or_pos l.length with h0 | h0
  ·have HL:Hid (fA l=⟨#[110,111,110,101]⟩):=by unfold Hid fA; rw [if_pos h0]
   have hz:((l.length:Int) == 0)=true:=by simp [h0]
   go_enter Tryz.func141,Tryz.ntmps141
   go_wp2
   go_ret
   exact ⟨by rw [HL.out]; rfl,Below.refl _ _⟩
  ·have hz:((l.length:Int) == 0)=false:=beq_false_of_ne oM
   have yC:(0:Int) < (l.length:Int):=oM
   have HL:=jZ (sF h0)
   obtain ⟨b,off,rfl,hb,hcell⟩:=yn h0
   have c0:∀ p:ap w.heap.size w,p.val.cell? ⟨b,off,none⟩=some (O U l[0]):=fun p=>by have:=hcell 0 h0 p; simpa using this
   have c00:w.cell? ⟨b,off,none⟩=some (O U l[0]):=c0 (ap.start _ _)
   have n0:=hr _ (List.getElem_mem h0)
   have Lt:=jZ hr; clear hr
   have Er:=jZ (fun W=>bP l[0] W n0.1 n0.2)
   have H1:Hid ((⟨(jm (l.take 1)).toArray⟩ : ByteArray)=⟨(Lib.itoa l[0]).toArray⟩):=by
    rw [Hid]
    congr 2
    rw [List.take_succ_eq_append_getElem h0,List.take_zero,List.nil_append,um]
   have HC:=jZ hcell; clear hcell
   obtain ⟨z,GS⟩ : ∃ z,l[0]=z:=⟨_,rfl⟩
   rw [GS] at c0 c00 Er H1
   clear GS n0
   clear yn
   go_enter Tryz.func141,Tryz.ntmps141
   go_wp2_with fail
   refine (Er.out _).mono ?_
   rintro e w1 ⟨rfl,wN⟩
   obtain ⟨q1,rfl⟩ : ∃ q:ap w.heap.size w,w1=q.val:=⟨⟨w1,wN⟩,rfl⟩
   go_wp2_with fail
   go_loopw [5,6] (fun s i wr=>∃ (k:Nat),1≤k∧k≤l.length∧i=O U k∧s=wG ⟨(jm (l.take k)).toArray⟩∧(∃ q:ap w.heap.size w,wr=q.val)) (fun _ i _=>l.length - (intOf i).toNat)
   case atStart=>exact ⟨1,Nat.le_refl _,h0,rfl,by rw [H1.out],⟨q1,rfl⟩⟩
   case round =>
    obtain ⟨k,Av,hk,rfl,rfl,q,rfl⟩:=hrel
    by_cases wQ:k < l.length
    ·have c0:=HC.out k wQ
     have n0:=Lt.out _ (List.getElem_mem wQ)
     have Lu:=jZ (sD wQ oM)
     have xQ:(jm (l.take k)).length≤1000:=by
      have h1:=sE (l:=l.take k) (fun n hn=>Lt.out n (List.mem_of_mem_take hn))
      rw [List.length_take] at h1; omega
     obtain ⟨S,hS⟩ : ∃ S:ByteArray,S=⟨(jm (l.take k)).toArray⟩:=⟨_,rfl⟩
     have HS:=jZ hS
     have Oh:S.size≤1000:=by rw [hS]; exact xQ
     rw [← hS]
     clear hS xQ
     obtain ⟨z,GS⟩ : ∃ z,l[k]=z:=⟨_,rfl⟩
     rw [GS] at c0 n0 Lu
     clear GS
     obtain ⟨T,hT⟩ : ∃ T:ByteArray,T=⟨(Lib.itoa z).toArray⟩:=⟨_,rfl⟩
     have Oi:T.size≤100:=by rw [hT]; exact bD n0.1 n0.2
     have NUM:Hid (∀ W:World,Calls wH 71 #[O U z] W fun e w'=>e=.returned (wG T)∧Below W.heap.size W w'):=fun W=>by rw [hT]; exact bP z W n0.1 n0.2
     have HT:=jZ hT
     clear hT n0
     have e1:(⟨#[32]⟩ : ByteArray).size=1:=rfl
     have z1:(S++⟨#[32]⟩).size≤1001:=by rw [bg]; omega
     go_wp2_with fail
     refine (NUM.out _).mono ?_
     rintro e w4 ⟨rfl,wV⟩
     have hb5:Below w.heap.size w w4:=q.below.trans (wV.mono q.size)
     go_wp2
     go_roundw
     case rel=>exact ⟨k+1,oM,oM,by go_num,by
      congr 1
      refine ee ?_
      rw [Lu.out,cE,cE,HS.out,HT.out,bo,bo,mn],⟨⟨w4,hb5⟩,rfl⟩⟩
     case measure=>simp [intOf]; omega
    ·have ek:k=l.length:=oM
     subst ek
     rw [List.take_length]
     go_wp2
     go_ret
     exact ⟨by rw [HL.out]; rfl,q.below⟩
set_option maxRecDepth 100000 in
theorem ro (x:aO) (s:ByteArray) (w:World) (h:aQ w w.heap.size x) (G:bK x) :
  Calls wH 86 #[x.val,wG s] w fun e w'=>e=.returned (wG ((dy x s).getD da))∧Below w.heap.size w w':=by
 have b0:=bZ w (.cells #[F x.TA x.t.length x.tc,F x.OA x.o.length x.oc,O U x.gt,O U x.sd,O U x.ms] 40)
 have hW:=h.up b0 nR
 have L0:=ai.new w 40 #[F x.TA x.t.length x.tc,F x.OA x.o.length x.oc,O U x.gt,O U x.sd,O U x.ms]
 have yF:ao x=true:=br.2 G
 by_cases h0:s=⟨#[105,110]⟩
 ·subst h0
  have HV:Hid ((dy x ⟨#[105,110]⟩).getD da=bM (cJ x.t)):=by unfold Hid dy; rw [if_pos rfl]; rfl
  have hc:=fun W hW=>jd x W hW
  rw [yF] at hc
  simp only [uI,if_true] at hc
  have hn:=fun W=>gK (cJ x.t) true W (fun _=>⟨G.inB.1,by have:=G.inB.2; omega⟩)
  go_enter Tryz.func86,Tryz.ntmps86
  go_wp2_with fail
  refine (hc _ hW).mono ?_
  rintro e w1 ⟨rfl,wN⟩
  go_wp2_with fail
  refine (hn _).mono ?_
  rintro e w2 ⟨rfl,wM⟩
  go_wp2
  go_ret
  exact ⟨by rw [HV.out]; rfl,av b0 (av wN wM)⟩
 have f0:(s.toList == [105,110])=false:=bW h0
 by_cases h1:s=⟨#[111,117,116]⟩
 ·subst h1
  have HV:Hid ((dy x ⟨#[111,117,116]⟩).getD da=bM (aW dp x.o)):=by unfold Hid dy; rw [if_neg dD,if_pos rfl]; rfl
  have hc:=fun W hW=>lB x W hW
  rw [yF] at hc
  simp only [uI,if_true] at hc
  have hn:=fun W=>gK (aW dp x.o) true W (fun _=>⟨(G.outB dp).1,by have:=(G.outB dp).2; omega⟩)
  go_enter Tryz.func86,Tryz.ntmps86
  go_wp2_with fail
  refine (hc _ hW).mono ?_
  rintro e w1 ⟨rfl,wN⟩
  go_wp2_with fail
  refine (hn _).mono ?_
  rintro e w2 ⟨rfl,wM⟩
  go_wp2
  go_ret
  exact ⟨by rw [HV.out]; rfl,av b0 (av wN wM)⟩
 have f1:(s.toList == [111,117,116])=false:=bW h1
 by_cases h2:s=⟨#[103,111,116]⟩
 ·subst h2
  have HV:Hid ((dy x ⟨#[103,111,116]⟩).getD da=bM x.gt):=by unfold Hid dy; rw [if_neg dD,if_neg dD,if_pos rfl]; rfl
  have hn:=fun W=>bP x.gt W G.g.1 (by have:=G.g.2; omega)
  go_enter Tryz.func86,Tryz.ntmps86
  go_wp2_with fail
  refine (hn _).mono ?_
  rintro e w2 ⟨rfl,wM⟩
  go_wp2
  go_ret
  exact ⟨by rw [HV.out]; rfl,av b0 wM⟩
 have f2:(s.toList == [103,111,116])=false:=bW h2
 by_cases h3:s=⟨#[115,111,108,100]⟩
 ·subst h3
  have HV:Hid ((dy x ⟨#[115,111,108,100]⟩).getD da=bM x.sd):=by unfold Hid dy; rw [if_neg dD,if_neg dD,if_neg dD,if_pos rfl]; rfl
  have hn:=fun W=>bP x.sd W G.s.1 (by have:=G.s.2; omega)
  go_enter Tryz.func86,Tryz.ntmps86
  go_wp2_with fail
  refine (hn _).mono ?_
  rintro e w2 ⟨rfl,wM⟩
  go_wp2
  go_ret
  exact ⟨by rw [HV.out]; rfl,av b0 wM⟩
 have f3:(s.toList == [115,111,108,100])=false:=bW h3
 by_cases h4:s=⟨#[109,105,115,115,101,100]⟩
 ·subst h4
  have HV:Hid ((dy x ⟨#[109,105,115,115,101,100]⟩).getD da=bM x.ms):=by unfold Hid dy; rw [if_neg dD,if_neg dD,if_neg dD,if_neg dD,if_pos rfl]; rfl
  have hn:=fun W=>bP x.ms W G.m.1 (by have:=G.m.2; omega)
  go_enter Tryz.func86,Tryz.ntmps86
  go_wp2_with fail
  refine (hn _).mono ?_
  rintro e w2 ⟨rfl,wM⟩
  go_wp2
  go_ret
  exact ⟨by rw [HV.out]; rfl,av b0 wM⟩
 have f4:(s.toList == [109,105,115,115,101,100])=false:=bW h4
 by_cases h5:s=⟨#[98,117,115,105,101,115,116]⟩
 ·subst h5
  have HV:Hid ((dy x ⟨#[98,117,115,105,101,115,116]⟩).getD da=if dn x then bM (dN x) else da):=by unfold Hid dy; rw [if_neg dD,if_neg dD,if_neg dD,if_neg dD,if_neg dD,if_pos rfl]; split <;> rfl
  have hc:=fun W hW=>jV x W hW
  have hn:=fun W=>gK (dN x) (dn x) W (fun _=>⟨vk.1,by have:=(vk (x:=x)).2; omega⟩)
  obtain ⟨T,hT⟩ : ∃ T,(if dn x=true then bM (dN x) else da)=T:=⟨_,rfl⟩
  rw [hT] at hn HV
  clear hT
  go_enter Tryz.func86,Tryz.ntmps86
  go_wp2_with fail
  refine (hc _ hW).mono ?_
  rintro e w1 ⟨rfl,wN⟩
  go_wp2_with fail
  refine (hn _).mono ?_
  rintro e w2 ⟨rfl,wM⟩
  go_wp2
  go_ret
  exact ⟨by rw [HV.out]; rfl,av b0 (av wN wM)⟩
 have f5:(s.toList == [98,117,115,105,101,115,116])=false:=bW h5
 have HV:Hid ((dy x s).getD da=da):=by unfold Hid dy; rw [if_neg h0,if_neg h1,if_neg h2,if_neg h3,if_neg h4,if_neg h5]; rfl
 clear h0 h1 h2 h3 h4 h5
 go_enter Tryz.func86,Tryz.ntmps86
 go_wp2
 go_ret
 exact ⟨by rw [HV.out]; rfl,b0⟩
theorem rq {x:aO} (G:bK x) (n:Int) (b:Bool):(bC b (aT (fun r:ae=>decide (r.p=n)) ae.k x.o)).length≤8∧∀ m ∈ bC b (aT (fun r:ae=>decide (r.p=n)) ae.k x.o),0≤m∧m≤1000000000:=by
 cases b
 ·exact ⟨by simp [bC],by simp [bC]⟩
 ·refine ⟨jT (mv _ _ _) G.ol,fun m hm=>?_⟩
  obtain ⟨r,hr,_,rfl⟩:=fR.1 (show m ∈ aT _ _ _ from hm)
  obtain ⟨j,hj,e⟩:=List.getElem_of_mem hr
  have h1:=eC G.tall (ae.bounds (G.oall j hj)).1
  rw [e] at h1; omega
theorem ow {x:aO} (G:bK x) (n:Int) (b:Bool):(bC b (aT (fun r:ae=>decide (r.k=n)) ae.p x.o)).length≤8∧∀ m ∈ bC b (aT (fun r:ae=>decide (r.k=n)) ae.p x.o),0≤m∧m≤1000000000:=by
 cases b
 ·exact ⟨by simp [bC],by simp [bC]⟩
 ·refine ⟨jT (mv _ _ _) G.ol,fun m hm=>?_⟩
  obtain ⟨r,hr,_,rfl⟩:=fR.1 (show m ∈ aT _ _ _ from hm)
  obtain ⟨j,hj,e⟩:=List.getElem_of_mem hr
  have h1:=(ae.bounds (G.oall j hj)).2.1
  rw [e] at h1; omega
set_option maxRecDepth 100000 in
theorem sG (x:aO) (l:Lg) (s:ByteArray) (n:Int) (w:World) (h:aQ w w.heap.size x) (G:bK x) :
  Calls wH 87 #[aJ x l,wG s,O U n] w fun e w'=>e=.returned (.tuple #[aJ x l,wG ((gV x s n).getD da)])∧Below w.heap.size w w':=by
 have L1:=(ai.new w 42 #[F x.TA x.t.length x.tc,F x.OA x.o.length x.oc,O U x.gt,O U x.sd,O U x.ms,wG l.D,wG l.P,O U l.n]).alloc (.cells #[F none 0 0,F none 0 0,O U 0,O U 0,O U 0,wG ⟨#[]⟩,wG ⟨#[]⟩,O U 0] 42)
 have L2:=ai.new1 w (.cells #[F x.TA x.t.length x.tc,F x.OA x.o.length x.oc,O U x.gt,O U x.sd,O U x.ms,wG l.D,wG l.P,O U l.n] 42) 42 #[F none 0 0,F none 0 0,O U 0,O U 0,O U 0,wG ⟨#[]⟩,wG ⟨#[]⟩,O U 0]
 have b1:=bZ w (.cells #[F x.TA x.t.length x.tc,F x.OA x.o.length x.oc,O U x.gt,O U x.sd,O U x.ms,wG l.D,wG l.P,O U l.n] 42)
 have b2:=b1.alloc b1.size (.cells #[F none 0 0,F none 0 0,O U 0,O U 0,O U 0,wG ⟨#[]⟩,wG ⟨#[]⟩,O U 0] 42)
 have hW:=h.up b2 nR
 have xq:w.heap.size≤w.heap.size+1:=oM
 clear b1 h
 by_cases h0:s=⟨#[97,116]⟩
 ·subst h0
  have HV:Hid ((gV x ⟨#[97,116]⟩ n).getD da=(lj x n).getD da):=by unfold Hid gV; rw [if_pos rfl]
  have BD:=rq G n (ao x && cg n 1 999)
  have hc:=fun W hW=>nk x n W hW
  have HT:Hid ((lj x n).getD da=if (ao x && cg n 1 999)=true then fA (bC (ao x && cg n 1 999) (aT (fun r:ae=>decide (r.p=n)) ae.k x.o)) else da):=by unfold Hid lj; split <;> rfl
  obtain ⟨ok,wP⟩ : ∃ b,(ao x && cg n 1 999)=b:=⟨_,rfl⟩
  obtain ⟨ns,zb⟩ : ∃ b,bC (ao x && cg n 1 999) (aT (fun r:ae=>decide (r.p=n)) ae.k x.o)=b:=⟨_,rfl⟩
  rw [zb] at BD hc HT
  rw [wP] at hc HT
  have hl:=fun W A c hR=>na A c ns ok W hR BD.1 BD.2
  obtain ⟨T,hT⟩ : ∃ T,(if ok=true then fA ns else da)=T:=⟨_,rfl⟩
  rw [hT] at hl HT
  rw [HT.out] at HV
  clear wP zb hT HT BD
  go_enter Tryz.func87,Tryz.ntmps87
  go_wp2_with fail
  generalize ((w.alloc (.cells #[F x.TA x.t.length x.tc,F x.OA x.o.length x.oc,O U x.gt,O U x.sd,O U x.ms,wG l.D,wG l.P,O U l.n] 42)).alloc (.cells #[F none 0 0,F none 0 0,O U 0,O U 0,O U 0,wG ⟨#[]⟩,wG ⟨#[]⟩,O U 0] 42))=W at L1 L2 b2 hW ⊢
  refine (hc _ hW).mono ?_
  rintro e W1 ⟨A',c',rfl,hO,hb⟩
  have xW:=hO.reads
  have K1:=L1.below hb L1.lt
  have K2:=L2.below hb L2.lt
  have b3:=av b2 hb
  clear hO L1 L2
  go_wp2_with fail
  refine al (Sw 4 (fun W9=>Below W1.heap.size W1 W9) (fun W9=>Below w.heap.size w W9∧ai W9 (w.heap.size+1) 42 [F x.TA x.t.length x.tc,F x.OA x.o.length x.oc,O U x.gt,O U x.sd,O U x.ms,wG l.D,wG l.P,O U l.n])) (fun i w1 w2=>i ∉ [4]→Below w1.heap.size w1 w2) kZ kZ kZ (Sw.start jB.drew) ?_
  simp only [ax,Act.put,sA,gs0,gs1,Nat.zero_add,Nat.reduceAdd]
  refine aa _ (vb0C8 K1) ?_
  refine aa _ vb0 ?_
  refine aa _ vb0 ?_
  refine aa (wG T) (fun vs L9 w9 wK wI hB K9 wJ=>?_) ?_
  next =>
   replace wI:=sb wI wK
   have d1:=fe hB 1
   have d2:=fe hB 2
   simp only [d1,d2] at wJ ⊢
   go_simp
   refine (hl w9 A' c' (xW.then wI)).mono ?_
   rintro en w8 ⟨rfl,wL⟩
   exact wJ _ _ rfl (Sw.stay wK kZ dD (wI.trans (wL.mono wI.size))) (fun _=>wL)
  refine aa (undef) (fun vs L9 w9 wK wI hB K9 wJ=>?_) ?_
  next =>
   replace wI:=wI.here wK
   have d0:=fe hB 0
   simp only [d0] at wJ ⊢
   have Lr:=K2.below wI K2.lt
   obtain ⟨z0,z1,z2,z3,z4,z5,z6,z7⟩:=cells8 Lr
   obtain ⟨f0,f1,f2,f3,f4,f5,f6,f7⟩:=frz8 Lr
   have xo:=jZ (show ai _ (w.heap.size+1) 42 [F x.TA x.t.length x.tc,F x.OA x.o.length x.oc,O U x.gt,O U x.sd,O U x.ms,wG l.D,wG l.P,O U l.n] from nn (Lr) (F x.TA x.t.length x.tc) (F x.OA x.o.length x.oc) (O U x.gt) (O U x.sd) (O U x.ms) (wG l.D) (wG l.P) (O U l.n))
   have xK:=jZ (eX (g:=(w.heap.size+1)) ((b3).trans (wI.mono (b3).size)) xq (F x.TA x.t.length x.tc) (F x.OA x.o.length x.oc) (O U x.gt) (O U x.sd) (O U x.ms) (wG l.D) (wG l.P) (O U l.n))
   clear Lr
   go_simp
   exact wJ _ _ rfl (Sw.turn ⟨xK.out,xo.out⟩) nq
  refine aa _ (va1 3) ?_
  refine ar fun vs L9 w9 wS wI hB=>?_
  replace wI:=wI.done wS dD
  have dl:=ag.eq (hB 5 _ rfl rfl dD)
  simp only [dl]
  clear hB dl
  obtain ⟨hD,hN⟩:=wI
  obtain ⟨k0,k1,k2,k3,k4,k5,k6,k7⟩:=cells8 hN
  clear hN
  go_wp2
  refine bodyPost_ret (v:=.tuple #[aJ x l,wG T]) (by simp [results,Tryz.results87,go_sem, *]) rfl ⟨by rw [HV.out],hD⟩
 have f0:(s.toList == [97,116])=false:=bW h0
 by_cases h1:s=⟨#[119,105,116,104]⟩
 ·subst h1
  have HV:Hid ((gV x ⟨#[119,105,116,104]⟩ n).getD da=(iy x n).getD da):=by unfold Hid gV; rw [if_neg dD,if_pos rfl]
  have BD:=ow G n (ao x && aS x.t n)
  have hc:=fun W hW=>kN x n W hW
  have HT:Hid ((iy x n).getD da=if (ao x && aS x.t n)=true then fA (bC (ao x && aS x.t n) (aT (fun r:ae=>decide (r.k=n)) ae.p x.o)) else da):=by unfold Hid iy; split <;> rfl
  obtain ⟨ok,wP⟩ : ∃ b,(ao x && aS x.t n)=b:=⟨_,rfl⟩
  obtain ⟨ns,zb⟩ : ∃ b,bC (ao x && aS x.t n) (aT (fun r:ae=>decide (r.k=n)) ae.p x.o)=b:=⟨_,rfl⟩
  rw [zb] at BD hc HT
  rw [wP] at hc HT
  have hl:=fun W A c hR=>na A c ns ok W hR BD.1 BD.2
  obtain ⟨T,hT⟩ : ∃ T,(if ok=true then fA ns else da)=T:=⟨_,rfl⟩
  rw [hT] at hl HT
  rw [HT.out] at HV
  clear wP zb hT HT BD
  go_enter Tryz.func87,Tryz.ntmps87
  go_wp2_with fail
  generalize ((w.alloc (.cells #[F x.TA x.t.length x.tc,F x.OA x.o.length x.oc,O U x.gt,O U x.sd,O U x.ms,wG l.D,wG l.P,O U l.n] 42)).alloc (.cells #[F none 0 0,F none 0 0,O U 0,O U 0,O U 0,wG ⟨#[]⟩,wG ⟨#[]⟩,O U 0] 42))=W at L1 L2 b2 hW ⊢
  refine (hc _ hW).mono ?_
  rintro e W1 ⟨A',c',rfl,hO,hb⟩
  have xW:=hO.reads
  have K1:=L1.below hb L1.lt
  have K2:=L2.below hb L2.lt
  have b3:=av b2 hb
  clear hO L1 L2
  go_wp2_with fail
  refine al (Sw 4 (fun W9=>Below W1.heap.size W1 W9) (fun W9=>Below w.heap.size w W9∧ai W9 (w.heap.size+1) 42 [F x.TA x.t.length x.tc,F x.OA x.o.length x.oc,O U x.gt,O U x.sd,O U x.ms,wG l.D,wG l.P,O U l.n])) (fun i w1 w2=>i ∉ [4]→Below w1.heap.size w1 w2) kZ kZ kZ (Sw.start jB.drew) ?_
  simp only [ax,Act.put,sA,gs0,gs1,Nat.zero_add,Nat.reduceAdd]
  refine aa _ (vb0C8 K1) ?_
  refine aa _ vb0 ?_
  refine aa _ vb0 ?_
  refine aa (wG T) (fun vs L9 w9 wK wI hB K9 wJ=>?_) ?_
  next =>
   replace wI:=sb wI wK
   have d1:=fe hB 1
   have d2:=fe hB 2
   simp only [d1,d2] at wJ ⊢
   go_simp
   refine (hl w9 A' c' (xW.then wI)).mono ?_
   rintro en w8 ⟨rfl,wL⟩
   exact wJ _ _ rfl (Sw.stay wK kZ dD (wI.trans (wL.mono wI.size))) (fun _=>wL)
  refine aa (undef) (fun vs L9 w9 wK wI hB K9 wJ=>?_) ?_
  next =>
   replace wI:=wI.here wK
   have d0:=fe hB 0
   simp only [d0] at wJ ⊢
   have Lr:=K2.below wI K2.lt
   obtain ⟨z0,z1,z2,z3,z4,z5,z6,z7⟩:=cells8 Lr
   obtain ⟨f0,f1,f2,f3,f4,f5,f6,f7⟩:=frz8 Lr
   have xo:=jZ (show ai _ (w.heap.size+1) 42 [F x.TA x.t.length x.tc,F x.OA x.o.length x.oc,O U x.gt,O U x.sd,O U x.ms,wG l.D,wG l.P,O U l.n] from nn (Lr) (F x.TA x.t.length x.tc) (F x.OA x.o.length x.oc) (O U x.gt) (O U x.sd) (O U x.ms) (wG l.D) (wG l.P) (O U l.n))
   have xK:=jZ (eX (g:=(w.heap.size+1)) ((b3).trans (wI.mono (b3).size)) xq (F x.TA x.t.length x.tc) (F x.OA x.o.length x.oc) (O U x.gt) (O U x.sd) (O U x.ms) (wG l.D) (wG l.P) (O U l.n))
   clear Lr
   go_simp
   exact wJ _ _ rfl (Sw.turn ⟨xK.out,xo.out⟩) nq
  refine aa _ (va1 3) ?_
  refine ar fun vs L9 w9 wS wI hB=>?_
  replace wI:=wI.done wS dD
  have dl:=ag.eq (hB 5 _ rfl rfl dD)
  simp only [dl]
  clear hB dl
  obtain ⟨hD,hN⟩:=wI
  obtain ⟨k0,k1,k2,k3,k4,k5,k6,k7⟩:=cells8 hN
  clear hN
  go_wp2
  refine bodyPost_ret (v:=.tuple #[aJ x l,wG T]) (by simp [results,Tryz.results87,go_sem, *]) rfl ⟨by rw [HV.out],hD⟩
 have f1:(s.toList == [119,105,116,104])=false:=bW h1
 by_cases h2:s=⟨#[116,101,120,116]⟩
 ·subst h2
  have HV:Hid ((gV x ⟨#[116,101,120,116]⟩ n).getD da=(kq x n).getD da):=by unfold Hid gV; rw [if_neg dD,if_neg dD,if_pos rfl]
  have hc:=fun W hW=>m9 x n W hW
  obtain ⟨T,hT⟩ : ∃ T,(kq x n).getD da=T:=⟨_,rfl⟩
  rw [hT] at hc HV
  clear hT
  go_enter Tryz.func87,Tryz.ntmps87
  go_wp2_with fail
  generalize ((w.alloc (.cells #[F x.TA x.t.length x.tc,F x.OA x.o.length x.oc,O U x.gt,O U x.sd,O U x.ms,wG l.D,wG l.P,O U l.n] 42)).alloc (.cells #[F none 0 0,F none 0 0,O U 0,O U 0,O U 0,wG ⟨#[]⟩,wG ⟨#[]⟩,O U 0] 42))=W at L1 L2 b2 hW ⊢
  refine al (Sw 5 (fun W9=>Below W.heap.size W W9) (fun W9=>Below w.heap.size w W9∧ai W9 (w.heap.size+1) 42 [F x.TA x.t.length x.tc,F x.OA x.o.length x.oc,O U x.gt,O U x.sd,O U x.ms,wG l.D,wG l.P,O U l.n])) (fun i w1 w2=>i ∉ [5]→Below w1.heap.size w1 w2) kZ kZ kZ (Sw.start jB.drew) ?_
  simp only [ax,Act.put,sA,gs0,gs1,Nat.zero_add,Nat.reduceAdd]
  refine aa _ (vb0C8 L1) ?_
  refine aa _ vb0 ?_
  refine aa _ (vb1C5 1 L1) ?_
  refine aa _ vb0 ?_
  refine aa (wG T) (fun vs L9 w9 wK wI hB K9 wJ=>?_) ?_
  next =>
   replace wI:=sb wI wK
   have d2:=fe hB 2
   have d3:=fe hB 3
   simp only [d2,d3] at wJ ⊢
   go_simp
   refine (hc w9 (hW.then wI)).mono ?_
   rintro en w8 ⟨rfl,wL⟩
   exact wJ _ _ rfl (Sw.stay wK kZ dD (wI.trans (wL.mono wI.size))) (fun _=>wL)
  refine aa (undef) (fun vs L9 w9 wK wI hB K9 wJ=>?_) ?_
  next =>
   replace wI:=wI.here wK
   have d0:=fe hB 0
   simp only [d0] at wJ ⊢
   have Lr:=L2.below wI L2.lt
   obtain ⟨z0,z1,z2,z3,z4,z5,z6,z7⟩:=cells8 Lr
   obtain ⟨f0,f1,f2,f3,f4,f5,f6,f7⟩:=frz8 Lr
   have xo:=jZ (show ai _ (w.heap.size+1) 42 [F x.TA x.t.length x.tc,F x.OA x.o.length x.oc,O U x.gt,O U x.sd,O U x.ms,wG l.D,wG l.P,O U l.n] from nn (Lr) (F x.TA x.t.length x.tc) (F x.OA x.o.length x.oc) (O U x.gt) (O U x.sd) (O U x.ms) (wG l.D) (wG l.P) (O U l.n))
   have xK:=jZ (eX (g:=(w.heap.size+1)) ((b2).trans (wI.mono (b2).size)) xq (F x.TA x.t.length x.tc) (F x.OA x.o.length x.oc) (O U x.gt) (O U x.sd) (O U x.ms) (wG l.D) (wG l.P) (O U l.n))
   clear Lr
   go_simp
   exact wJ _ _ rfl (Sw.turn ⟨xK.out,xo.out⟩) nq
  refine aa _ (va1 4) ?_
  refine ar fun vs L9 w9 wS wI hB=>?_
  replace wI:=wI.done wS dD
  have dl:=ag.eq (hB 6 _ rfl rfl dD)
  simp only [dl]
  clear hB dl
  obtain ⟨hD,hN⟩:=wI
  obtain ⟨k0,k1,k2,k3,k4,k5,k6,k7⟩:=cells8 hN
  clear hN
  go_wp2
  refine bodyPost_ret (v:=.tuple #[aJ x l,wG T]) (by simp [results,Tryz.results87,go_sem, *]) rfl ⟨by rw [HV.out],hD⟩
 have f2:(s.toList == [116,101,120,116])=false:=bW h2
 have HV:Hid ((gV x s n).getD da=da):=by unfold Hid gV; rw [if_neg h0,if_neg h1,if_neg h2]; rfl
 clear h0 h1 h2
 go_enter Tryz.func87,Tryz.ntmps87
 go_upto_region 10 with fail
 generalize ((w.alloc (.cells #[F x.TA x.t.length x.tc,F x.OA x.o.length x.oc,O U x.gt,O U x.sd,O U x.ms,wG l.D,wG l.P,O U l.n] 42)).alloc (.cells #[F none 0 0,F none 0 0,O U 0,O U 0,O U 0,wG ⟨#[]⟩,wG ⟨#[]⟩,O U 0] 42))=W at L1 L2 b2 hW ⊢
 obtain ⟨c0,c1,c2,c3,c4,c5,c6,c7⟩:=cells8 L1
 obtain ⟨z0,z1,z2,z3,z4,z5,z6,z7⟩:=cells8 L2
 obtain ⟨f0,f1,f2,f3,f4,f5,f6,f7⟩:=frz8 L2
 have bz:=jZ (eX (g:=w.heap.size+1) (b2) xq (F x.TA x.t.length x.tc) (F x.OA x.o.length x.oc) (O U x.gt) (O U x.sd) (O U x.ms) (wG l.D) (wG l.P) (O U l.n))
 clear L1 L2 b2 hW
 go_wp2
 refine bodyPost_ret (v:=.tuple #[aJ x l,wG ⟨#[63]⟩]) (by simp [results,Tryz.results87,go_sem, *]) rfl ⟨by rw [HV.out]; rfl,bz.out⟩
end Go.Proofs.YtoeoimhemojdeaaGreatDoor
