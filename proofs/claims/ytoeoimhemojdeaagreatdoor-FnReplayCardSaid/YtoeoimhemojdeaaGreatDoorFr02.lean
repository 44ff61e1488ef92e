/- Lemmas. -/
import Derived.Deep.RegionHeld3
import Derived.OwnWalk
import Derived.Maps.AppendAt
import Derived.Lib.Overlaps
import Derived.Lib.SliceRun
import Derived.Laws.IdiomCopy
import Derived.Deep.RegionLaw
import Derived.Laws.Externs
import Derived.Lib.AppendZerosOnto
import Derived.Laws.OwnMore
import Derived.Test.YtoeoimhemojdeaaGreatDoorFr01

set_option linter.unusedVariables false
set_option linter.unusedSimpArgs false
set_option maxHeartbeats 8000000
open Go.Value renaming int → O, slice → F, string → xh
open Go.IntKind renaming i64 → U
open Go.Proofs.Tryz renaming prog → xi

namespace Go.Proofs.YtoeoimhemojdeaaGreatDoor
open Go.RowKit
structure Oc where
 t:List ar
 o:List ae
 gt:Int
 sd:Int
 ms:Int
 deriving DecidableEq,Inhabited
def aN.c (x:aN):Oc:=⟨x.t,x.o,x.gt,x.sd,x.ms⟩
def Oc.at (y:Oc) (TA:Option Addr) (tc:Nat) (OA:Option Addr) (oc:Nat):aN:=⟨TA,y.t,tc,OA,y.o,oc,y.gt,y.sd,y.ms⟩
def Oc.good (y:Oc):Bool:=ap (y.at none 0 none 0)
theorem Oc.good_at (y:Oc) (TA:Option Addr) (tc:Nat) (OA:Option Addr) (oc:Nat):ap (y.at TA tc OA oc)=y.good:=rfl
theorem aN.good_c (x:aN):x.c.good=ap x:=rfl
structure de where
 kind:Int
 stamp:Int
 person:Int
 value:Int
 deriving DecidableEq,Inhabited
def de.enc (s:de):List Value:=[O U s.kind,O U s.stamp,O U s.person,O U s.value]
abbrev de.val (s:de):Value:=.agg #[O U s.kind,O U s.stamp,O U s.person,O U s.value]
theorem de.enc_len (s:de):s.enc.length=4:=rfl
def de.okS (s:de):Bool :=
  (if s.kind = 1 then decide (s.person = 0) && bX s.value 1 9999
   else if s.kind = 2 ∨ s.kind = 3 then bX s.person 1 999 && bX s.value 1 9999
   else if s.kind = 4 then (bX s.person 1 999 || decide (s.person = 0)) && bX s.value 1 9999
   else if s.kind = 5 then bX s.person 1 999 && decide (s.value = 0)
   else if s.kind = 6 then bX s.person 1 999 && bX s.value 1 999
   else false) && bX s.stamp 1 99
def de.ok (s:de):Bool :=
  bX s.stamp 1 99 &&
  (if s.kind = 1 then decide (s.person = 0) && bX s.value 1 9999
   else if s.kind = 2 ∨ s.kind = 3 then bX s.person 1 999 && bX s.value 1 9999
   else if s.kind = 4 then bX s.person 0 999 && bX s.value 1 9999
   else if s.kind = 5 then bX s.person 1 999 && decide (s.value = 0)
   else if s.kind = 6 then bX s.person 1 999 && bX s.value 1 999 && decide (s.value ≠ s.person)
   else false)
inductive de.Is (s:de):Prop
 | get (hk:s.kind=1) (hp:s.person=0) (hv:1≤s.value∧s.value≤9999)
 | show_ (hk:s.kind=2) (hp:1≤s.person∧s.person≤999) (hv:1≤s.value∧s.value≤9999)
 | back (hk:s.kind=3) (hp:1≤s.person∧s.person≤999) (hv:1≤s.value∧s.value≤9999)
 | sell0 (hk:s.kind=4) (hp:s.person=0) (hv:1≤s.value∧s.value≤9999)
 | sell (hk:s.kind=4) (hp:1≤s.person∧s.person≤999) (hv:1≤s.value∧s.value≤9999)
 | miss (hk:s.kind=5) (hp:1≤s.person∧s.person≤999) (hv:s.value=0)
 | move (hk:s.kind=6) (hp:1≤s.person∧s.person≤999) (hv:1≤s.value∧s.value≤999)
theorem de.okS_is {s:de} (h:s.okS=true):(1≤s.stamp∧s.stamp≤99)∧s.Is:=by
 unfold de.okS at h
 rw [Bool.and_eq_true,bV] at h
 refine ⟨h.2, ?_⟩
 have h:=h.1
 split at h
 ·rename_i hk; simp only [Bool.and_eq_true,bV,decide_eq_true_eq] at h; exact .get hk h.1 h.2
 ·split at h
  ·rename_i hk; simp only [Bool.and_eq_true,bV] at h
   rcases hk with hk | hk
   ·exact .show_ hk h.1 h.2
   ·exact .back hk h.1 h.2
  ·split at h
   ·rename_i hk; simp only [Bool.and_eq_true,Bool.or_eq_true,bV,decide_eq_true_eq] at h
    rcases h.1 with hp | hp
    ·exact .sell hk hp h.2
    ·exact .sell0 hk hp h.2
   ·split at h
    ·rename_i hk; simp only [Bool.and_eq_true,bV,decide_eq_true_eq] at h; exact .miss hk h.1 h.2
    ·split at h
     ·rename_i hk; simp only [Bool.and_eq_true,bV] at h; exact .move hk h.1 h.2
     ·cases h
theorem de.ok_okS (s:de):s.ok=(s.okS && !(decide (s.kind=6) && decide (s.value=s.person))):=by
 unfold de.ok de.okS
 generalize xM:bX s.stamp 1 99=st
 by_cases h1:s.kind=1
 ·have e:decide (s.kind=6)=false:=jE oM
  rw [if_pos h1,if_pos h1,e]; cases st <;> simp
 ·rw [if_neg h1,if_neg h1]
  by_cases h2:s.kind=2 ∨ s.kind=3
  ·have e:decide (s.kind=6)=false:=jE oM
   rw [if_pos h2,if_pos h2,e]; cases st <;> simp
  ·rw [if_neg h2,if_neg h2]
   by_cases h4:s.kind=4
   ·have e:decide (s.kind=6)=false:=jE oM
    have e2:bX s.person 0 999=(bX s.person 1 999 || decide (s.person=0)):=by
     rw [Bool.eq_iff_iff,Bool.or_eq_true,bV,bV,decide_eq_true_eq]; omega
    rw [if_pos h4,if_pos h4,e,e2]; cases st <;> simp
   ·rw [if_neg h4,if_neg h4]
    by_cases h5:s.kind=5
    ·have e:decide (s.kind=6)=false:=jE oM
     rw [if_pos h5,if_pos h5,e]; cases st <;> simp
    ·rw [if_neg h5,if_neg h5]
     by_cases h6:s.kind=6
     ·rw [if_pos h6,if_pos h6,jD h6]
      by_cases h7:s.value=s.person
      ·simp [h7]
      ·simp [h7]; cases st <;> simp
     ·rw [if_neg h6,if_neg h6]; cases st <;> rfl
def dG (ts:List ar) (kd:Int):Nat:=(ts.takeWhile fun t=>decide (t.k < kd)).length
theorem kC (ts:List ar) (kd:Int):dG ts kd≤ts.length:=by
 unfold dG; exact (List.takeWhile_prefix _).length_le
theorem kD (t:ar) (ts:List ar) (kd:Int):dG (t :: ts) kd=if t.k < kd then dG ts kd+1 else 0:=by
 unfold dG; rw [List.takeWhile_cons]; by_cases h:t.k < kd <;> simp [h]
theorem tK:∀ (ts:List ar) (kd:Int) (i:Nat) (h:i < ts.length),i < dG ts kd→ts[i].k < kd
 | t :: ts,kd,i,h,hi=>by
  rw [kD] at hi
  split at hi
  ·cases i with
   | zero=>assumption
   | succ i=>exact tK ts kd i (by simpa using h) oM
  ·omega
theorem tL:∀ (ts:List ar) (kd:Int) (h:dG ts kd < ts.length),¬ ts[dG ts kd].k < kd
 | t :: ts,kd,h=>by
  by_cases hk:t.k < kd
  ·have e:dG (t :: ts) kd=dG ts kd+1:=by rw [kD,if_pos hk]
   simp only [e,List.getElem_cons_succ]
   exact tL ts kd (by simpa [e] using h)
  ·have e:dG (t :: ts) kd=0:=by rw [kD,if_neg hk]
   simp only [e,List.getElem_cons_zero]; exact hk
def xd (ts:List ar):Prop:=ts.Pairwise fun a b=>a.k < b.k
theorem kV:∀ (ts:List ar) (n:Nat) (p:Int),du n p ts=true→xd ts∧(n ≠ 0→∀ t ∈ ts,p < t.k)
 | [],_,_,_=>⟨List.Pairwise.nil,fun _ t ht=>by cases ht⟩
 | r :: l,n,p,h=>by
  simp only [du,Bool.and_eq_true,Bool.or_eq_true,decide_eq_true_eq] at h
  obtain ⟨h1,h2⟩:=kV l (n+1) r.k h.2
  have h3:=h2 oM
  refine ⟨List.pairwise_cons.2 ⟨h3,h1⟩,fun hn t ht=>?_⟩
  have hp:p < r.k:=by rcases h.1.2 with h0 | h0; exact absurd h0 hn; exact h0
  rcases List.mem_cons.1 ht with rfl | ht
  ·exact hp
  ·have:=h3 t ht; omega
theorem wb (ts:List ar) (kd:Int) (ha:xd ts) (i:Nat) (h:i < ts.length) (hi:dG ts kd≤i) : ¬ ts[i].k < kd:=by
 have h0:=tL ts kd oM
 rcases Nat.lt_or_ge (dG ts kd) i with xu | xR
 ·have:=List.pairwise_iff_getElem.1 ha (dG ts kd) i oM h xu
  omega
 ·have e:dG ts kd=i:=oM
  simp only [e] at h0; exact h0
def aj (ts:List ar) (kd n:Int):List ar :=
 if 0≤ay ts kd then ts.set (ay ts kd).toNat ⟨(ts.getD (ay ts kd).toNat default).k,(ts.getD (ay ts kd).toNat default).c+n⟩
 else ts.take (dG ts kd)++⟨kd,n⟩ :: ts.drop (dG ts kd)
def ef (ts:List ar) (kd:Int):List ar:=ts.take (dG ts kd)++⟨kd,0⟩ :: ts.drop (dG ts kd)
theorem kh {α:Type} (f:α→Bool) (y:α) (r:List α) (hy:f y=true):∀ (l:List α) (k:Nat),(∀ x ∈ l,f x=false)→bB f k (l++y :: r)=(k+l.length:Nat)
 | [],k,_=>by simp [bB,hy]
 | x :: l,k,h=>by
  rw [List.cons_append,bB,h x sP]
  rw [if_neg sP,kh f y r hy l (k+1) fun y hy=>h y (by simp [hy])]
  simp; omega
theorem nT {α:Type} (f:α→Bool):∀ (l:List α) (k:Nat),bB f k l < k+l.length
 | [],_=>by simp [bB]; omega
 | x :: l,k=>by
  rw [bB]; split
  ·simp; omega
  ·have:=nT f l (k+1); simp only [List.length_cons]; omega
theorem mi {ts:List ar} {kd:Int} (h:0≤ay ts kd):(ay ts kd).toNat < ts.length:=by
 have:=nT (fun t:ar=>decide (t.k=kd)) ts 0
 change ay ts kd < _ at this; omega
theorem mW {ts:List ar} {kd:Int} (h : ¬ 0≤ay ts kd):∀ t ∈ ts,t.k ≠ kd:=by
 have h1:=dP ts kd
 rw [jE h] at h1
 intro t ht e
 have:aS ts kd=true:=by unfold aS; rw [List.any_eq_true]; exact ⟨t,ht,jD e⟩
 rw [this] at h1; cases h1
theorem r7 {ts:List ar} {kd:Int} (h : ¬ 0≤ay ts kd):ay (ef ts kd) kd=dG ts kd:=by
 have h0:=mW h
 unfold ay ef
 rw [kh _ _ _ sP _ 0 fun t ht=>by simpa using h0 t (List.mem_of_mem_take ht)]
 simp [List.length_take,Nat.min_eq_left (kC ts kd)]
theorem qI {ts:List ar} {kd:Int} (n:Int) (h : ¬ 0≤ay ts kd) :
  aj ts kd n=(ef ts kd).set (dG ts kd) ⟨((ef ts kd).getD (dG ts kd) default).k,((ef ts kd).getD (dG ts kd) default).c+n⟩:=by
 unfold aj
 rw [if_neg h]
 have hl:(ts.take (dG ts kd)).length=dG ts kd:=by rw [List.length_take,Nat.min_eq_left (kC ts kd)]
 have e:(ef ts kd).getD (dG ts kd) default=⟨kd,0⟩:=by
  unfold ef
  rw [List.getD_eq_getElem?_getD,List.getElem?_append_right oM,hl,Nat.sub_self]; rfl
 rw [e]
 unfold ef
 rw [List.set_append_right _ _ oM,hl,Nat.sub_self,List.set_cons_zero,Int.zero_add]
theorem dR {a b:ae} : before a b=true ↔ a.k < b.k ∨ a.k=b.k∧a.p < b.p:=by
 unfold before; simp
def o6 (os:List ae):Prop:=os.Pairwise fun a b=>before a b=true
theorem lE (ts:List ar):∀ (os:List ae) (p:Option ae),dQ ts p os=true→o6 os∧∀ q,p=some q→∀ o ∈ os,before q o=true
 | [],_,_=>⟨List.Pairwise.nil,fun _ _ o ho=>by cases ho⟩
 | r :: l,p,h=>by
  simp only [dQ,Bool.and_eq_true] at h
  obtain ⟨h1,h2⟩:=lE ts l (some r) h.2
  have h3:=h2 r rfl
  refine ⟨List.pairwise_cons.2 ⟨h3,h1⟩, ?_⟩
  rintro q rfl o ho
  have hq:before q r=true:=h.1.2
  rcases List.mem_cons.1 ho with rfl | ho
  ·exact hq
  ·have:=h3 o ho
   rw [dR] at this hq ⊢; omega
def ft (k p:Int) (o:ae):Bool:=decide (o.k=k) && decide (o.p=p)
theorem eh {k p:Int} {o:ae} : ft k p o=true ↔ o.k=k∧o.p=p:=by unfold ft; simp
def aO (k p:Int):List ae→Int
 | []=>0
 | o :: l=>if ft k p o then o.c else aO k p l
def aL (k p:Int):Int→List ae→List ae
 | c,[]=>if c ≠ 0 then [⟨k,p,c⟩] else []
 | c,o :: l =>
  if before ⟨k,p,0⟩ o=true∧c ≠ 0 then ⟨k,p,c⟩ :: (if ft k p o then aL k p 0 l else o :: aL k p 0 l)
  else if ft k p o then aL k p c l else o :: aL k p c l
theorem nU {k p:Int} : ∀ l:List ae,(∀ o ∈ l,ft k p o=false)→aL k p 0 l=l
 | [],_=>by simp [aL]
 | o :: l,h=>by
  rw [aL,if_neg sP,h o sP,if_neg sP,nU l fun q hq=>h q (by simp [hq])]
theorem lF {k p:Int} {o:ae} (h:before ⟨k,p,0⟩ o=true):ft k p o=false:=by
 rw [dR] at h; simp only at h
 rw [Bool.eq_false_iff]; intro e; rw [eh] at e; omega
theorem pq {k p c:Int} (hc:c ≠ 0):∀ l:List ae,(∀ o ∈ l,before ⟨k,p,0⟩ o=true)→aL k p c l=⟨k,p,c⟩ :: l
 | [],_=>by simp [aL,hc]
 | o :: l,h=>by
  have ho:=h o sP
  rw [aL,if_pos ⟨ho,hc⟩,lF ho,if_neg sP,nU l fun q hq=>lF (h q (by simp [hq]))]
def eV (k p by_:Int):List ae→List ae
 | []=>[⟨k,p,by_⟩]
 | o :: l=>if before o ⟨k,p,0⟩ then o :: eV k p by_ l else if ft k p o then (if o.c+by_=0 then l else ⟨o.k,o.p,o.c+by_⟩ :: l) else ⟨k,p,by_⟩ :: o :: l
theorem gS {k p by_:Int} : ∀ l:List ae,o6 l→(aO k p l=0→by_ ≠ 0)→eV k p by_ l=aL k p (aO k p l+by_) l
 | [],_,h=>by
  have hb:by_ ≠ 0:=h rfl
  simp [eV,aL,aO,hb]
 | o :: l,ha,h=>by
  obtain ⟨h1,h2⟩:=List.pairwise_cons.1 ha
  rw [eV]
  by_cases hb:before o ⟨k,p,0⟩=true
  ·have hn:ft k p o=false:=by
    rw [dR] at hb; simp only at hb
    rw [Bool.eq_false_iff]; intro e; rw [eh] at e; omega
   have hr : ¬ before ⟨k,p,0⟩ o=true:=by rw [dR] at hb ⊢; simp only at hb ⊢; omega
   have eo:aO k p (o :: l)=aO k p l:=by rw [aO,hn,if_neg sP]
   rw [eo] at h ⊢
   rw [if_pos hb,gS l h2 h,aL,if_neg (fun e=>hr e.1),hn,if_neg sP]
  ·rw [if_neg hb]
   by_cases hi:ft k p o=true
   ·have hi':=eh.1 hi
    have eo:aO k p (o :: l)=o.c:=by rw [aO,if_pos hi]
    have hr : ¬ before ⟨k,p,0⟩ o=true:=by rw [dR]; simp only; omega
    have hl:∀ q ∈ l,before ⟨k,p,0⟩ q=true:=fun q hq=>by
     have:=h1 q hq; rw [dR] at this ⊢; simp only at this ⊢; omega
    have eA:aL k p (o.c+by_) (o :: l)=aL k p (o.c+by_) l:=by rw [aL,if_neg (fun e=>hr e.1),if_pos hi]
    rw [eo,if_pos hi,eA]
    by_cases hz:o.c+by_=0
    ·rw [if_pos hz,hz,nU l fun q hq=>lF (hl q hq)]
    ·rw [if_neg hz,pq hz l hl,hi'.1,hi'.2]
   ·have y7:ft k p o=false:=Bool.eq_false_iff.2 hi
    have hr:before ⟨k,p,0⟩ o=true:=by
     rw [dR] at hb ⊢; simp only at hb ⊢
     rw [eh] at hi; omega
    have hl:∀ q ∈ l,before ⟨k,p,0⟩ q=true:=fun q hq=>by
     have:=h1 q hq; rw [dR] at this hr ⊢; simp only at this hr ⊢; omega
    have yf:∀ q ∈ l,ft k p q=false:=fun q hq=>lF (hl q hq)
    have e0:aO k p (o :: l)=0:=by
     have:∀ m:List ae,(∀ q ∈ m,ft k p q=false)→aO k p m=0:=by
      intro m; induction m with
      | nil=>intro _; rfl
      | cons q m ih=>intro hm; rw [aO,hm q sP,if_neg sP]; exact ih fun r hr=>hm r (by simp [hr])
     exact this _ (by intro q hq; rcases List.mem_cons.1 hq with rfl | hq; exact y7; exact yf q hq)
    have hb0:=h e0
    rw [if_neg hi,e0,Int.zero_add,pq hb0 (o :: l) (by intro q hq; rcases List.mem_cons.1 hq with rfl | hq; exact hr; exact hl q hq)]
theorem pW {k p:Int} : ∀ (l:List ae) (c:Int) (o:ae),o ∈ aL k p c l→o ∈ l ∨ o=⟨k,p,c⟩
 | [],c,o,h=>by
  rw [aL] at h; split at h
  ·simp at h; exact .inr h
  ·cases h
 | q :: l,c,o,h=>by
  have up0:∀ o,o ∈ (if ft k p q=true then aL k p 0 l else q :: aL k p 0 l)→o ∈ q :: l:=by
   intro o ho
   have hz:∀ m:List ae,∀ o ∈ aL k p 0 m,o ∈ m:=by
    intro m; induction m with
    | nil=>intro o ho; simp [aL] at ho
    | cons r m ih =>
     intro o ho
     rw [aL,if_neg sP] at ho
     split at ho
     ·exact List.mem_cons_of_mem _ (ih o ho)
     ·rcases List.mem_cons.1 ho with rfl | ho
      ·simp
      ·exact List.mem_cons_of_mem _ (ih o ho)
   split at ho
   ·exact List.mem_cons_of_mem _ (hz l o ho)
   ·rcases List.mem_cons.1 ho with rfl | ho
    ·simp
    ·exact List.mem_cons_of_mem _ (hz l o ho)
  rw [aL] at h
  split at h
  ·rcases List.mem_cons.1 h with rfl | h
   ·exact .inr rfl
   ·exact .inl (up0 o h)
  ·split at h
   ·rcases pW l c o h with h | h
    ·exact .inl (List.mem_cons_of_mem _ h)
    ·exact .inr h
   ·rcases List.mem_cons.1 h with rfl | h
    ·exact .inl sP
    ·rcases pW l c o h with h | h
     ·exact .inl (List.mem_cons_of_mem _ h)
     ·exact .inr h
theorem fu {k p:Int} : ∀ l:List ae,(aL k p 0 l).Sublist l
 | []=>by simp [aL]
 | o :: l=>by
  rw [aL,if_neg sP]
  split
  ·exact (fu l).cons o
  ·exact (fu l).cons_cons o
theorem mj {k p:Int} : ∀ l:List ae,aO k p l=0 ∨ ∃ o ∈ l,ft k p o=true∧o.c=aO k p l
 | []=>.inl rfl
 | o :: l=>by
  rw [aO]; split
  ·rename_i h; exact .inr ⟨o,sP,h,rfl⟩
  ·rcases mj (k:=k) (p:=p) l with h | ⟨q,hq,h⟩
   ·exact .inl h
   ·exact .inr ⟨q,by simp [hq],h⟩
theorem nV {k p:Int} : ∀ l:List ae,(∀ o ∈ l,ft k p o=false)→aO k p l=0
 | [],_=>rfl
 | o :: l,h=>by rw [aO,h o sP,if_neg sP]; exact nV l fun q hq=>h q (by simp [hq])
theorem mn {k p:Int} : ∀ (l:List ae) (s:Int),o6 l→bI (ft k p) s l=s+aO k p l
 | [],s,_=>by simp [bI,aO]
 | o :: l,s,ha=>by
  obtain ⟨h1,h2⟩:=List.pairwise_cons.1 ha
  rw [bI,aO]
  by_cases hi:ft k p o=true
  ·rw [if_pos hi,if_pos hi,mn l _ h2,nV l,Int.add_zero]
   intro q hq
   have:=h1 q hq
   rw [dR] at this
   have hi':=eh.1 hi
   rw [Bool.eq_false_iff]; intro e; rw [eh] at e; omega
  ·rw [if_neg hi,if_neg hi]; exact mn l s h2
theorem aU {P:Program} {f:FuncId} {args:Array Value} {B:Nat} {w:World} {q:aq B w} {v v' : Value} (hv:Hid (v=v')) (hB:B≤w.heap.size)
  (h:Calls P f args q.val fun e w'=>e=.returned v∧Below q.val.heap.size q.val w'):Calls P f args q.val fun e w'=>e=.returned v'∧∃ q' : aq B w,w'=q'.val:=by
 have:=hv.out; subst this; exact aP hB h
theorem bP (x:aN) (kd:Int) (w:World) (h:aQ w w.heap.size x) :
  Calls xi 174 #[x.val,O U kd] w fun e w'=>e=.returned (O U (ay x.t kd))∧Below w.heap.size w w':=by
 have hl:=h.ts.big
 have HF:Hid (bB (fun t:ar=>decide (t.k=kd)) 0 (x.t.drop 0)=ay x.t kd):=rfl
 go_enter Tryz.func174,Tryz.ntmps174
 go_wp2
 have hb0:=bZ w (.cells #[F x.TA x.t.length x.tc,F x.OA x.o.length x.oc,O U x.gt,O U x.sd,O U x.ms] 40)
 have hS:=nW.of (x:=x) (ai.new w 40 #[F x.TA x.t.length x.tc,F x.OA x.o.length x.oc,O U x.gt,O U x.sd,O U x.ms])
 have hR:=h.up hb0 nR
 generalize w.alloc (.cells #[F x.TA x.t.length x.tc,F x.OA x.o.length x.oc,O U x.gt,O U x.sd,O U x.ms] 40)=W at hb0 hS hR ⊢
 have c0:=hS.c0
 have yQ:=hR.ts.el
 go_loopw [5] (fun i wr=>∃ (k:Nat),k≤x.t.length∧i=O U k∧(∃ q:aq W.heap.size W,wr=q.val)∧Hid (bB (fun t:ar=>decide (t.k=kd)) k (x.t.drop k)=ay x.t kd)) (fun i _=>x.t.length - (intOf i).toNat)
 case atStart=>exact ⟨0,Nat.zero_le _,rfl,⟨aq.start _ _,rfl⟩,HF⟩
 case round =>
  obtain ⟨k,hk,rfl,⟨q,rfl⟩,HR⟩:=hrel
  by_cases xu:k < x.t.length
  ·obtain ⟨b,off,hA,hb,hcell⟩:=yQ oM
   obtain ⟨e0,e1⟩:=hcell k xu
   have hy:=fun hv=>tI (f:=fun t:ar=>decide (t.k=kd)) xu hv
   have hn:=fun hv=>ve (f:=fun t:ar=>decide (t.k=kd)) xu hv
   obtain ⟨r,xW⟩ : ∃ r,r=x.t[k]:=⟨_,rfl⟩
   rw [← xW] at e0 e1 hy hn
   simp only [hA] at c0
   clear xW hcell yQ hA
   by_cases hz:r.k=kd
   ·have HE:Hid ((k:Int)=ay x.t kd):=by rw [← hy (jD hz)]; exact HR.out
    have hv:(r.k == kd)=true:=by simp [hz]
    clear hy hn hz
    go_wp2
    go_ret
    exact ⟨by rw [← HE.out]; rfl,hb0.trans (q.below.mono hb0.size)⟩
   ·have HE:Hid (bB (fun t:ar=>decide (t.k=kd)) (k+1) (x.t.drop (k+1))=ay x.t kd):=by rw [← hn (jE hz)]; exact HR.out
    have hv:(r.k == kd)=false:=by simp [hz]
    clear hy hn hz
    go_wp2
    go_roundw
    case rel=>exact ⟨k+1,oM,by go_num,⟨q,rfl⟩,HE⟩
    case measure=>simp [intOf]; omega
  ·have HE:Hid (-1=ay x.t kd):=by
    have h1:=HR.out; rw [List.drop_eq_nil_of_le oM] at h1; exact h1
   clear yQ
   go_wp2
   go_ret
   exact ⟨by rw [← HE.out]; rfl,hb0.trans (q.below.mono hb0.size)⟩
theorem jH (r:ae) (w:World) (h1:1≤r.k∧r.k≤99) (h2:1≤r.p∧r.p≤999) :
  Calls xi 176 #[r.val] w fun e w'=>e=.returned (O U (1000 * r.k+r.p))∧Below w.heap.size w w':=by
 obtain ⟨a1,a2⟩:=h1
 obtain ⟨b1,b2⟩:=h2
 have m:IntKind.i64.wrap (1000 * r.k)=1000 * r.k:=IntWalk.i64_in _ oM
 have s:IntKind.i64.wrap (1000 * r.k+r.p)=1000 * r.k+r.p:=IntWalk.i64_in _ oM
 go_enter Tryz.func176,Tryz.ntmps176
 go_wp2
 first
  | (go_ret; exact ⟨rfl,jB.alloc nR _⟩)
  | (go_quiet (fail); go_wp2; go_ret; exact ⟨rfl,by go_grown⟩)
theorem pr {ts:List ar} {p:Option ae} {l:List ae} {k:Nat} (h:k < l.length):dQ ts p (l.drop k)=(l[k].ok ts && (match p with | none=>true | some q=>before q l[k]) && dQ ts (some l[k]) (l.drop (k+1))):=by
 rw [List.drop_eq_getElem_cons h]; rfl
theorem qJ (x:aN) (w:World) (h:aQ w w.heap.size x) (yf:∀ i (hi:i < x.t.length),x.t[i].ok=true) :
  Calls xi 131 #[x.val] w fun e w'=>e=.returned (.bool (fh x.t x.o && decide (x.o.length≤8)))∧Below w.heap.size w w':=by
 have hl:=h.os.big
 have AO:=jZ yf; clear yf
 go_enter Tryz.func131,Tryz.ntmps131
 go_wp2
 have hb0:=bZ w (.cells #[F x.TA x.t.length x.tc,F x.OA x.o.length x.oc,O U x.gt,O U x.sd,O U x.ms] 40)
 have hS:=nW.of (x:=x) (ai.new w 40 #[F x.TA x.t.length x.tc,F x.OA x.o.length x.oc,O U x.gt,O U x.sd,O U x.ms])
 have hR:=h.up hb0 nR
 generalize w.alloc (.cells #[F x.TA x.t.length x.tc,F x.OA x.o.length x.oc,O U x.gt,O U x.sd,O U x.ms] 40)=W at hb0 hS hR ⊢
 have yQ:=hR.os.el
 go_loopw [3] (fun i wr=>∃ (k:Nat) (prev:Option ae),k≤x.o.length∧i=O U k∧(∃ q:aq W.heap.size W,wr=q.val)∧Hid (dQ x.t prev (x.o.drop k)=fh x.t x.o)∧Hid ((k=0→prev=none)∧∀ (_hk:0 < k) (h' : k - 1 < x.o.length),prev=some x.o[k - 1]∧x.o[k - 1].ok x.t=true)) (fun i _=>x.o.length - (intOf i).toNat)
 case atStart=>exact ⟨0,none,Nat.zero_le _,rfl,⟨aq.start _ _,rfl⟩,rfl,fun _=>rfl,fun h=>absurd h oM⟩
 case round =>
  obtain ⟨k,prev,hk,rfl,⟨q,rfl⟩,HR,HP⟩:=hrel
  obtain ⟨s0,s1,s2,s3,s4⟩:=hS
  by_cases xu:k < x.o.length
  ·obtain ⟨b,off,hA,hb,hcell⟩:=yQ oM
   obtain ⟨e0,e1,e2⟩:=hcell k xu
   have HS:=jZ (pr (ts:=x.t) (p:=prev) xu)
   obtain ⟨r,xW⟩ : ∃ r,r=x.o[k]:=⟨_,rfl⟩
   have HN:Hid (r.ok x.t=true→(k+1=0→some r=none)∧∀ (_hk:0 < k+1) (h' : k+1 - 1 < x.o.length),some r=some x.o[k+1 - 1]∧x.o[k+1 - 1].ok x.t=true):=fun ho=>⟨fun h=>by omega,fun _ h'=>⟨by rw [xW]; rfl,by rw [xW] at ho; exact ho⟩⟩
   have HC:Hid (∀ _:0 < k,∃ u:ae,prev=some u∧u.ok x.t=true∧f9 W.heap.size W b (off+(k - 1) * 3) u):=fun h=>⟨x.o[k - 1],(HP.out.2 h oM).1,(HP.out.2 h oM).2,hcell (k - 1) oM⟩
   rw [← xW] at e0 e1 e2 HS
   simp only [hA] at s1
   clear xW hcell yQ
   go_wp2
   have hbV:=q.below.alloc q.size (.cells #[O U r.k,O U r.p,O U r.c] 147)
   have hlV:=ai.new q.val 147 #[O U r.k,O U r.p,O U r.c]
   generalize q.val.alloc (.cells #[O U r.k,O U r.p,O U r.c] 147)=V at hbV hlV ⊢
   generalize q.val.heap.size=gv at hlV ⊢
   obtain ⟨d0,d1,d2⟩:=f9.of (r:=r) hlV
   have up:∀ {a:Addr} {u:Value},(∀ p:aq W.heap.size W,p.val.cell? a=some u)→∀ p:aq V.heap.size V,p.val.cell? a=some u:=fun h p=>h ⟨p.val,hbV.trans (p.below.mono hbV.size)⟩
   have s0:=up s0
   have s1:=up s1
   have s2:=up s2
   have s3:=up s3
   have s4:=up s4
   have zC:({ x with OA:=some ⟨b,off,none⟩ } : aN)=x:=by rw [← hA]
   have DR:∀ p:aq V.heap.size V,aQ p.val p.val.heap.size { x with OA:=some ⟨b,off,none⟩ }:=fun p=>by rw [zC]; exact hR.at ⟨p.val,hbV.trans (p.below.mono hbV.size)⟩
   clear zC hA
   have xF:Hid (r.ok x.t=(aS x.t r.k && bX r.p 1 999 && bX r.c 1 9999)):=rfl
   clear e0 e1 e2
   obtain ⟨X,hX⟩ : ∃ X,ay x.t r.k=X:=⟨_,rfl⟩
   have HX:Hid (Value.int .i64 (ay x.t r.k)=O U X):=by rw [hX]; rfl
   have HH:Hid (aS x.t r.k=decide (0≤X)):=by rw [← hX]; exact (dP _ _).symm
   obtain ⟨v2,xV⟩ : ∃ v,bX r.p 1 999=v:=⟨_,rfl⟩
   obtain ⟨v3,zP⟩ : ∃ v,bX r.c 1 9999=v:=⟨_,rfl⟩
   rw [xV,zP] at xF
   have yS:=jZ xV; clear xV
   have zD:=jZ zP; clear zP
   clear hX
   by_cases Au:0≤X
   ·have Bb:decide (X < 0)=false:=jE oM
    have Av:Hid (decide (0≤X)=true):=jD Au
    cases v2
    ·rcases Nat.eq_zero_or_pos k with h0 | h0
     ·have hd:decide (0 < k)=false:=jE oM
      clear h0
      refine aw kZ kZ ?_
      repeat (any_goals (first | go_big_quiet_step ((first | (go_at_call 174; with_reducible refine aU HX nR (bP { x with OA:=some ⟨b,off,none⟩ } r.k _ (DR _))) | (go_at_call 134; with_reducible refine aB yS (aI r.p 1 999 _)))) | (refine wpQuiet_step (fun K hK=>?_); go_simp; split <;> (refine hK _ ?_; clear hK K))))
      all_goals (refine wpQuiet_nil ?_; rintro _ ⟨q1,rfl⟩)
      all_goals have xp:=hb0.trans ((hbV.trans (q1.below.mono hbV.size)).mono hb0.size)
      all_goals go_wp2
      go_ret
      refine ⟨?_,xp⟩
      rw [← HR.out,HS.out,xF.out,Bool.and_false]; rfl
     ·have h0' : (0:Int) < (k:Int):=oM
      refine aw kZ kZ ?_
      repeat (any_goals (first | go_big_quiet_step ((first | (go_at_call 174; with_reducible refine aU HX nR (bP { x with OA:=some ⟨b,off,none⟩ } r.k _ (DR _))) | (go_at_call 134; with_reducible refine aB yS (aI r.p 1 999 _)))) | (refine wpQuiet_step (fun K hK=>?_); go_simp; split <;> (refine hK _ ?_; clear hK K))))
      all_goals (refine wpQuiet_nil ?_; rintro _ ⟨q1,rfl⟩)
      all_goals have xp:=hb0.trans ((hbV.trans (q1.below.mono hbV.size)).mono hb0.size)
      all_goals go_wp2
      go_ret
      refine ⟨?_,xp⟩
      rw [← HR.out,HS.out,xF.out,Bool.and_false]; rfl
    ·cases v3
     ·rcases Nat.eq_zero_or_pos k with h0 | h0
      ·have hd:decide (0 < k)=false:=jE oM
       clear h0
       refine aw kZ kZ ?_
       repeat (any_goals (first | go_big_quiet_step ((first | (go_at_call 174; with_reducible refine aU HX nR (bP { x with OA:=some ⟨b,off,none⟩ } r.k _ (DR _))) | (go_at_call 134; with_reducible refine aB yS (aI r.p 1 999 _)) | (go_at_call 134; with_reducible refine aB zD (aI r.c 1 9999 _)))) | (refine wpQuiet_step (fun K hK=>?_); go_simp; split <;> (refine hK _ ?_; clear hK K))))
       all_goals (refine wpQuiet_nil ?_; rintro _ ⟨q1,rfl⟩)
       all_goals have xp:=hb0.trans ((hbV.trans (q1.below.mono hbV.size)).mono hb0.size)
       all_goals go_wp2
       go_ret
       refine ⟨?_,xp⟩
       rw [← HR.out,HS.out,xF.out,Bool.and_false]; rfl
      ·have h0' : (0:Int) < (k:Int):=oM
       refine aw kZ kZ ?_
       repeat (any_goals (first | go_big_quiet_step ((first | (go_at_call 174; with_reducible refine aU HX nR (bP { x with OA:=some ⟨b,off,none⟩ } r.k _ (DR _))) | (go_at_call 134; with_reducible refine aB yS (aI r.p 1 999 _)) | (go_at_call 134; with_reducible refine aB zD (aI r.c 1 9999 _)))) | (refine wpQuiet_step (fun K hK=>?_); go_simp; split <;> (refine hK _ ?_; clear hK K))))
       all_goals (refine wpQuiet_nil ?_; rintro _ ⟨q1,rfl⟩)
       all_goals have xp:=hb0.trans ((hbV.trans (q1.below.mono hbV.size)).mono hb0.size)
       all_goals go_wp2
       go_ret
       refine ⟨?_,xp⟩
       rw [← HR.out,HS.out,xF.out,Bool.and_false]; rfl
     ·have Bc:Hid (r.ok x.t=true):=by unfold Hid; rw [xF.out,HH.out,Av.out]; rfl
      rcases Nat.eq_zero_or_pos k with h0 | h0
      ·have hd:decide (0 < k)=false:=jE oM
       have BP:Hid (prev=none):=HP.out.1 h0
       clear h0
       refine aw kZ kZ ?_
       repeat (any_goals (first | go_big_quiet_step ((first | (go_at_call 174; with_reducible refine aU HX nR (bP { x with OA:=some ⟨b,off,none⟩ } r.k _ (DR _))) | (go_at_call 134; with_reducible refine aB yS (aI r.p 1 999 _)) | (go_at_call 134; with_reducible refine aB zD (aI r.c 1 9999 _)))) | (refine wpQuiet_step (fun K hK=>?_); go_simp; split <;> (refine hK _ ?_; clear hK K))))
       all_goals (refine wpQuiet_nil ?_; rintro _ ⟨q1,rfl⟩)
       all_goals have xp:=hb0.trans ((hbV.trans (q1.below.mono hbV.size)).mono hb0.size)
       all_goals go_wp2
       go_roundw
       case rel=>exact ⟨k+1,some r,oM,by go_num,⟨⟨_,hbV.trans (q1.below.mono hbV.size)⟩,rfl⟩,by have h1:=HR.out; rw [HS.out,Bc.out,BP.out] at h1; exact h1,HN.out Bc.out⟩
       case measure=>simp [intOf]; omega
      ·have h0' : (0:Int) < (k:Int):=oM
       obtain ⟨u,Jp,IC,⟨t0,t1,t2⟩⟩:=HC.out h0
       have t0:=up t0
       have t1:=up t1
       have t2:=up t2
       subst Jp
       have Gv:Hid (dQ x.t (some u) (x.o.drop k)=(r.ok x.t && before u r && dQ x.t (some r) (x.o.drop (k+1)))):=HS.out
       obtain ⟨Lh,Cv,_⟩:=ae.bounds IC
       obtain ⟨Lj,Ec,_⟩:=ae.bounds Bc.out
       have Lk:=jZ (And.intro (eC AO.out Lh) Cv)
       have ED:=jZ (And.intro (eC AO.out Lj) Ec)
       have HB:Hid (before u r=decide (1000 * u.k+u.p < 1000 * r.k+r.p)):=nS Cv Ec
       clear IC Lh Cv Lj Ec up
       obtain ⟨K1,Jq⟩ : ∃ K,1000 * u.k+u.p=K:=⟨_,rfl⟩
       obtain ⟨K2,Jr⟩ : ∃ K,1000 * r.k+r.p=K:=⟨_,rfl⟩
       rw [Jq,Jr] at HB
       have CP:Hid (Value.int .i64 (1000 * u.k+u.p)=O U K1):=by rw [Jq]; rfl
       have EZ:Hid (Value.int .i64 (1000 * r.k+r.p)=O U K2):=by rw [Jr]; rfl
       clear Jq Jr
       refine aw kZ kZ ?_
       repeat (any_goals (first | go_big_quiet_step ((first | (go_at_call 174; with_reducible refine aU HX nR (bP { x with OA:=some ⟨b,off,none⟩ } r.k _ (DR _))) | (go_at_call 134; with_reducible refine aB yS (aI r.p 1 999 _)) | (go_at_call 134; with_reducible refine aB zD (aI r.c 1 9999 _)) | (go_at_call 176; with_reducible refine aU CP nR (jH u _ Lk.out.1 Lk.out.2)) | (go_at_call 176; with_reducible refine aU EZ nR (jH r _ ED.out.1 ED.out.2)))) | (refine wpQuiet_step (fun K hK=>?_); go_simp; split <;> (refine hK _ ?_; clear hK K))))
       all_goals (refine wpQuiet_nil ?_; rintro _ ⟨q1,rfl⟩)
       all_goals have xp:=hb0.trans ((hbV.trans (q1.below.mono hbV.size)).mono hb0.size)
       all_goals go_wp2
       ·go_ret
        refine ⟨?_,xp⟩
        have hm:K2≤K1:=by assumption
        rw [← HR.out,Gv.out,Bc.out,HB.out,jE oM]; rfl
       ·have hm:K1 < K2:=by assumption
        go_roundw
        case rel=>exact ⟨k+1,some r,oM,by go_num,⟨⟨_,hbV.trans (q1.below.mono hbV.size)⟩,rfl⟩,by have h1:=HR.out; rw [Gv.out,Bc.out,HB.out,jD hm] at h1; exact h1,HN.out Bc.out⟩
        case measure=>simp [intOf]; omega
   ·have Bb:decide (X < 0)=true:=jD oM
    have Av:Hid (decide (0≤X)=false):=jE Au
    rcases Nat.eq_zero_or_pos k with h0 | h0
    ·have hd:decide (0 < k)=false:=jE oM
     clear h0
     refine aw kZ kZ ?_
     repeat (any_goals (first | go_big_quiet_step ((go_at_call 174; with_reducible refine aU HX nR (bP { x with OA:=some ⟨b,off,none⟩ } r.k _ (DR _)))) | (refine wpQuiet_step (fun K hK=>?_); go_simp; split <;> (refine hK _ ?_; clear hK K))))
     all_goals (refine wpQuiet_nil ?_; rintro _ ⟨q1,rfl⟩)
     all_goals have xp:=hb0.trans ((hbV.trans (q1.below.mono hbV.size)).mono hb0.size)
     all_goals go_wp2
     go_ret
     refine ⟨?_,xp⟩
     rw [← HR.out,HS.out,xF.out,HH.out,Av.out]; rfl
    ·have h0' : (0:Int) < (k:Int):=oM
     refine aw kZ kZ ?_
     repeat (any_goals (first | go_big_quiet_step ((go_at_call 174; with_reducible refine aU HX nR (bP { x with OA:=some ⟨b,off,none⟩ } r.k _ (DR _)))) | (refine wpQuiet_step (fun K hK=>?_); go_simp; split <;> (refine hK _ ?_; clear hK K))))
     all_goals (refine wpQuiet_nil ?_; rintro _ ⟨q1,rfl⟩)
     all_goals have xp:=hb0.trans ((hbV.trans (q1.below.mono hbV.size)).mono hb0.size)
     all_goals go_wp2
     go_ret
     refine ⟨?_,xp⟩
     rw [← HR.out,HS.out,xF.out,HH.out,Av.out]; rfl
  ·have HK:Hid (fh x.t x.o=true):=by
    have h1:=HR.out
    rw [List.drop_eq_nil_of_le oM] at h1; exact h1.symm
   clear yQ
   go_wp2
   go_ret
   refine ⟨?_,hb0.trans (q.below.mono hb0.size)⟩
   rw [HK.out,Bool.true_and]
   exact congrArg (fun b=>Ending.returned (.bool b)) (decide_eq_decide.2 oM)
theorem lh (n:Int) (w:World):Calls xi 132 #[O U n] w fun e w'=>e=.returned (.bool (bX n 0 99999))∧w=w':=by
 go_enter Tryz.func132,Tryz.ntmps132
 go_wp2_with fail
 refine (aI n 0 99999 _).mono ?_
 rintro e w' ⟨rfl,rfl⟩
 go_wp2
 go_ret
 exact ⟨rfl,rfl⟩
theorem ki (x:aN) (w:World) (h:aQ w w.heap.size x) (tl:x.t.length≤8) (ol:x.o.length≤8) (ht:∀ i (hi:i < x.t.length),x.t[i].ok=true) (ho:∀ i (hi:i < x.o.length),x.o[i].ok x.t=true) :
  Calls xi 133 #[x.val] w fun e w'=>e=.returned (.tuple #[O U (cF x.t),O U (aW dq x.o)])∧Below w.heap.size w w':=by
 have HT:=jZ ht; clear ht
 have HO:=jZ ho; clear ho
 have HF:Hid (gC 0 (x.t.drop 0)=cF x.t):=rfl
 have HG:Hid (bI dq 0 (x.o.drop 0)=aW dq x.o):=rfl
 go_enter Tryz.func133,Tryz.ntmps133
 go_wp2
 have hb0:=bZ w (.cells #[F x.TA x.t.length x.tc,F x.OA x.o.length x.oc,O U x.gt,O U x.sd,O U x.ms] 40)
 have hS:=nW.of (x:=x) (ai.new w 40 #[F x.TA x.t.length x.tc,F x.OA x.o.length x.oc,O U x.gt,O U x.sd,O U x.ms])
 have hR:=h.up hb0 nR
 generalize w.alloc (.cells #[F x.TA x.t.length x.tc,F x.OA x.o.length x.oc,O U x.gt,O U x.sd,O U x.ms] 40)=W at hb0 hS hR ⊢
 obtain ⟨s0,s1,s2,s3,s4⟩:=hS
 have CR:=hR.ts.el
 have yt:=hR.os.el
 go_loopw [4,6] (fun s i wr=>∃ (k:Nat) (t:Int),k≤x.t.length∧i=O U k∧s=O U t∧(0≤t∧t≤9999 * (k:Int))∧(∃ q:aq W.heap.size W,wr=q.val)∧Hid (gC t (x.t.drop k)=cF x.t)) (fun _ i _=>x.t.length - (intOf i).toNat)
 case atStart=>exact ⟨0,0,Nat.zero_le _,rfl,rfl,oM,⟨aq.start _ _,rfl⟩,HF⟩
 case round =>
  obtain ⟨k,t,hk,rfl,rfl,⟨t0,t1⟩,⟨q,rfl⟩,HR⟩:=hrel
  by_cases xu:k < x.t.length
  ·obtain ⟨b,off,hA,hb,hcell⟩:=CR oM
   obtain ⟨e0,e1⟩:=hcell k xu
   obtain ⟨_,x1,x2⟩:=ar.bounds (HT.out k xu)
   have HS:=jZ (tJ xu t)
   obtain ⟨r,xW⟩ : ∃ r,r=x.t[k]:=⟨_,rfl⟩
   rw [← xW] at e0 e1 HS x1 x2
   simp only [hA] at s0
   clear xW hcell CR yt hA
   go_wp2
   go_roundw
   case rel=>exact ⟨k+1,t+r.c,oM,by go_num,rfl,oM,⟨q,rfl⟩,by have h1:=HR.out; rw [HS.out] at h1; exact h1⟩
   case measure=>simp [intOf]; omega
  ·have HE:Hid (t=cF x.t):=by
    have h1:=HR.out; rw [List.drop_eq_nil_of_le oM] at h1; exact h1
   clear CR
   go_wp2
   go_loopw [5,7] (fun s i wr=>∃ (k:Nat) (u:Int),k≤x.o.length∧i=O U k∧s=O U u∧(0≤u∧u≤9999 * (k:Int))∧(∃ q:aq W.heap.size W,wr=q.val)∧Hid (bI dq u (x.o.drop k)=aW dq x.o)) (fun _ i _=>x.o.length - (intOf i).toNat)
   case atStart=>exact ⟨0,0,Nat.zero_le _,rfl,rfl,oM,⟨q,rfl⟩,HG⟩
   case round =>
    obtain ⟨j,u,hj,rfl,rfl,⟨u0,u1⟩,⟨p,rfl⟩,HU⟩:=hrel
    by_cases Dc:j < x.o.length
    ·obtain ⟨b,off,hA,hb,hcell⟩:=yt oM
     obtain ⟨e0,e1,e2⟩:=hcell j Dc
     obtain ⟨_,_,x1,x2⟩:=ae.bounds (HO.out j Dc)
     have HS:Hid (bI dq u (x.o.drop j)=bI dq (u+x.o[j].c) (x.o.drop (j+1))):=lC (f:=dq) Dc u
     obtain ⟨r,xW⟩ : ∃ r,r=x.o[j]:=⟨_,rfl⟩
     rw [← xW] at e0 e1 e2 HS x1 x2
     simp only [hA] at s1
     clear xW hcell yt hA
     go_wp2
     go_roundw
     case rel=>exact ⟨j+1,u+r.c,oM,by go_num,rfl,oM,⟨p,rfl⟩,by have h1:=HU.out; rw [HS.out] at h1; exact h1⟩
     case measure=>simp [intOf]; omega
    ·have Cw:Hid (u=aW dq x.o):=by
      have h1:=HU.out; rw [List.drop_eq_nil_of_le oM] at h1; exact h1
     clear yt
     go_wp2
     go_ret2
     exact ⟨by rw [← HE.out,← Cw.out]; rfl,hb0.trans (p.below.mono hb0.size)⟩
theorem ei (x:aN) (w:World) (h:aQ w w.heap.size x) :
  Calls xi 82 #[x.val] w fun e w'=>e=.returned (.bool (ap x))∧Below w.heap.size w w':=by
 have hb0:=bZ w (.cells #[F x.TA x.t.length x.tc,F x.OA x.o.length x.oc,O U x.gt,O U x.sd,O U x.ms] 40)
 have hS:=nW.of (x:=x) (ai.new w 40 #[F x.TA x.t.length x.tc,F x.OA x.o.length x.oc,O U x.gt,O U x.sd,O U x.ms])
 have hR:=h.up hb0 nR
 have HG:Hid (ap x=((fp x.t && decide (x.t.length≤8)) && (fh x.t x.o && decide (x.o.length≤8)) && bX x.gt 0 99999 && bX x.sd 0 99999 && bX x.ms 0 99999 && lD x)):=by
  unfold Hid ap fq je
  generalize fp x.t=a1; generalize fh x.t x.o=a2; generalize decide (x.t.length≤8)=a3; generalize decide (x.o.length≤8)=a4; generalize bX x.gt 0 99999=a5; generalize bX x.sd 0 99999=a6; generalize bX x.ms 0 99999=a7; generalize lD x=a8
  cases a1 <;> cases a2 <;> cases a3 <;> cases a4 <;> cases a5 <;> cases a6 <;> cases a7 <;> rfl
 obtain ⟨v1,BG⟩ : ∃ v,(fp x.t && decide (x.t.length≤8))=v:=⟨_,rfl⟩
 obtain ⟨v2,xV⟩ : ∃ v,(fh x.t x.o && decide (x.o.length≤8))=v:=⟨_,rfl⟩
 obtain ⟨v3,zP⟩ : ∃ v,bX x.gt 0 99999=v:=⟨_,rfl⟩
 obtain ⟨v4,Bk⟩ : ∃ v,bX x.sd 0 99999=v:=⟨_,rfl⟩
 obtain ⟨v5,Aw⟩ : ∃ v,bX x.ms 0 99999=v:=⟨_,rfl⟩
 rw [BG,xV,zP,Bk,Aw] at HG
 have cT:∀ W,aQ W W.heap.size x→Calls xi 130 #[x.val] W fun e w'=>e=.returned (.bool v1)∧Below W.heap.size W w':=fun W hW=>by rw [← BG]; exact pX x W hW
 have c3:=fun W=>lh x.gt W
 have c4:=fun W=>lh x.sd W
 have c5:=fun W=>lh x.ms W
 rw [zP] at c3
 rw [Bk] at c4
 rw [Aw] at c5
 have zB:=jZ BG; clear BG
 have yS:=jZ xV; clear xV
 have zD:=jZ zP; clear zP
 have Dd:=jZ Bk; clear Bk
 have Js:=jZ Aw; clear Aw
 cases v1
 ·go_enter Tryz.func82,Tryz.ntmps82
  go_wp2_with fail
  generalize w.alloc (.cells #[F x.TA x.t.length x.tc,F x.OA x.o.length x.oc,O U x.gt,O U x.sd,O U x.ms] 40)=W at hb0 hS hR ⊢
  refine (aX (cT W hR)).mono ?_
  rintro e w1 ⟨rfl,q1,rfl⟩
  go_wp2
  go_ret
  exact ⟨by rw [HG.out]; rfl,hb0.trans (q1.below.mono hb0.size)⟩
 ·have h1:=zB.out
  rw [Bool.and_eq_true] at h1
  have tl:x.t.length≤8:=of_decide_eq_true h1.2
  have AO:=jZ (gL _ _ _ h1.1)
  have cO:∀ W,aQ W W.heap.size x→Calls xi 131 #[x.val] W fun e w'=>e=.returned (.bool v2)∧Below W.heap.size W w':=fun W hW=>by rw [← yS.out]; exact qJ x W hW AO.out
  clear h1
  cases v2
  ·go_enter Tryz.func82,Tryz.ntmps82
   go_wp2_with fail
   generalize w.alloc (.cells #[F x.TA x.t.length x.tc,F x.OA x.o.length x.oc,O U x.gt,O U x.sd,O U x.ms] 40)=W at hb0 hS hR ⊢
   obtain ⟨s0,s1,s2,s3,s4⟩:=hS
   refine (aX (cT W hR)).mono ?_
   rintro e w1 ⟨rfl,q1,rfl⟩
   go_wp2_with fail
   refine (aP nR (cO _ (hR.at q1))).mono ?_
   rintro e w2 ⟨rfl,q2,rfl⟩
   go_wp2
   go_ret
   exact ⟨by rw [HG.out]; rfl,hb0.trans (q2.below.mono hb0.size)⟩
  ·have h2:=yS.out
   rw [Bool.and_eq_true] at h2
   have ol:x.o.length≤8:=of_decide_eq_true h2.2
   have BQ:=jZ (gf _ _ _ h2.1)
   have cM:=fun W hW=>ki x W hW tl ol AO.out BQ.out
   have hi:=kB x.t 0 AO.out
   have hj:=fN dq x.t x.o 0 BQ.out
   have Cx:Hid (lD x=decide (x.gt=cF x.t+aW dq x.o+x.sd+x.ms)):=rfl
   change 0≤cF x.t∧cF x.t≤_ at hi
   change 0≤aW dq x.o∧aW dq x.o≤_ at hj
   generalize cF x.t=I at cM hi Cx
   generalize aW dq x.o=J at cM hj Cx
   obtain ⟨i1,i2⟩:=hi
   obtain ⟨j1,j2⟩:=hj
   clear h2
   by_cases zm:(v3 && v4 && v5)=true
   ·rw [Bool.and_eq_true,Bool.and_eq_true] at zm
    obtain ⟨⟨rfl,rfl⟩,rfl⟩:=zm
    obtain ⟨g1,g2⟩:=bV.1 zD.out
    obtain ⟨g3,g4⟩:=bV.1 Dd.out
    obtain ⟨g5,g6⟩:=bV.1 Js.out
    obtain ⟨z,hz⟩ : ∃ z,decide (x.gt=I+J+x.sd+x.ms)=z:=⟨_,rfl⟩
    have yT:(x.gt == I+J+x.sd+x.ms)=z:=by rw [← hz,Bool.eq_iff_iff]; simp
    have HZ:=jZ hz; clear hz
    cases z
    all_goals
     go_enter Tryz.func82,Tryz.ntmps82
     go_wp2_with fail
     generalize w.alloc (.cells #[F x.TA x.t.length x.tc,F x.OA x.o.length x.oc,O U x.gt,O U x.sd,O U x.ms] 40)=W at hb0 hS hR ⊢
     obtain ⟨s0,s1,s2,s3,s4⟩:=hS
     refine (aX (cT W hR)).mono ?_
     rintro e w1 ⟨rfl,q1,rfl⟩
     go_wp2_with fail
     refine (aP nR (cO _ (hR.at q1))).mono ?_
     rintro e w2 ⟨rfl,q2,rfl⟩
     go_wp2_with fail
     refine (c3 _).mono ?_
     rintro e w3 ⟨rfl,rfl⟩
     go_wp2_with fail
     refine (c4 _).mono ?_
     rintro e w3 ⟨rfl,rfl⟩
     go_wp2_with fail
     refine (c5 _).mono ?_
     rintro e w3 ⟨rfl,rfl⟩
     go_wp2_with fail
     refine (aP nR (cM _ (hR.at q2))).mono ?_
     rintro e w4 ⟨rfl,q4,rfl⟩
     go_wp2
     go_ret
     exact ⟨by rw [HG.out,Cx.out,HZ.out]; rfl,hb0.trans (q4.below.mono hb0.size)⟩
   ·have Gc:Hid (ap x=false):=by
     unfold Hid; rw [HG.out]
     cases v3 <;> cases v4 <;> cases v5 <;> first | rfl | exact absurd rfl zm
    cases v3
    all_goals (try cases v4)
    all_goals (try cases v5)
    all_goals first
     | exact absurd rfl zm
     | skip
    all_goals
     clear zm
     go_enter Tryz.func82,Tryz.ntmps82
     go_wp2_with fail
     generalize w.alloc (.cells #[F x.TA x.t.length x.tc,F x.OA x.o.length x.oc,O U x.gt,O U x.sd,O U x.ms] 40)=W at hb0 hS hR ⊢
     obtain ⟨s0,s1,s2,s3,s4⟩:=hS
     refine (aX (cT W hR)).mono ?_
     rintro e w1 ⟨rfl,q1,rfl⟩
     go_wp2_with fail
     refine (aP nR (cO _ (hR.at q1))).mono ?_
     rintro e w2 ⟨rfl,q2,rfl⟩
     go_wp2_with fail
     refine (c3 _).mono ?_
     rintro e w3 ⟨rfl,rfl⟩
     go_wp2_with (first | (go_at_call 132; with_reducible refine (c4 _).mono ?_; rintro e w4 ⟨rfl,rfl⟩) | (go_at_call 132; with_reducible refine (c5 _).mono ?_; rintro e w4 ⟨rfl,rfl⟩))
     go_ret
     exact ⟨by rw [Gc.out]; rfl,hb0.trans (q2.below.mono hb0.size)⟩
structure cu (w:World) (B g:Nat) (x:aN):Prop where
 s:nW B w g x
 lt:g < B
 r:aQ w B x
theorem cu.of {w:World} {g:Nat} {t:TypeId} {x:aN} (h:ai w g t x.enc) (hr:aQ w w.heap.size x):cu w w.heap.size g x:=⟨nW.of h,h.lt,hr⟩
theorem cu.then {w w' : World} {B g:Nat} {x:aN} (h:cu w B g x) (hb:Below B w w') {B' : Nat} (hB:B≤B'):cu w' B' g x :=
 ⟨⟨fun p=>h.s.c0 ⟨p.val,hb.trans (p.below.mono hB)⟩,fun p=>h.s.c1 ⟨p.val,hb.trans (p.below.mono hB)⟩,fun p=>h.s.c2 ⟨p.val,hb.trans (p.below.mono hB)⟩,fun p=>h.s.c3 ⟨p.val,hb.trans (p.below.mono hB)⟩,fun p=>h.s.c4 ⟨p.val,hb.trans (p.below.mono hB)⟩⟩,jL h.lt hB,(h.r.below hb).mono hB⟩
theorem cu.at {w:World} {g:Nat} {x:aN} (h:cu w w.heap.size g x) (q:aq w.heap.size w):cu q.val q.val.heap.size g x:=h.then q.below q.size
theorem pY (f:ar→Bool) (g:Nat) (lb:Array Value) (eg:∀ args w,(callFunc g args).run xi w=.ok (.enter g args) w) (A:Option Addr) (c:Nat) (l:List ar) (w:World)
  (hf:∀ (t:ar) (p:aq w.heap.size w),Calls xi g (#[t.val]++lb) p.val fun e w'=>e=.returned (.bool (f t))∧Below p.val.heap.size p.val w') (h:fE w w.heap.size A l) :
  Calls xi 164 #[F A l.length c,.func (.func g) #[] lb] w fun e w'=>e=.returned (O U (bB f 0 l))∧Below w.heap.size w w':=by
 have hl:=h.big
 have yQ:=h.el
 have HF:Hid (bB f 0 (l.drop 0)=bB f 0 l):=rfl
 have HC:=jZ hf; clear hf
 go_enter Tryz.func164,Tryz.ntmps164
 go_wp2
 go_loopw [8] (fun i wr=>∃ (k:Nat),k≤l.length∧i=O U k∧(∃ q:aq w.heap.size w,wr=q.val)∧Hid (bB f k (l.drop k)=bB f 0 l)) (fun i _=>l.length - (intOf i).toNat)
 case atStart=>exact ⟨0,Nat.zero_le _,rfl,⟨aq.start _ _,rfl⟩,HF⟩
 case round =>
  obtain ⟨k,hk,rfl,⟨q,rfl⟩,HR⟩:=hrel
  by_cases xu:k < l.length
  ·obtain ⟨b,off,rfl,hb,hcell⟩:=yQ oM
   obtain ⟨c0,c1⟩:=hcell k xu
   have hy:=fun hv=>tI (f:=f) xu hv
   have hn:=fun hv=>ve (f:=f) xu hv
   obtain ⟨x,zC⟩ : ∃ x,x=l[k]:=⟨_,rfl⟩
   rw [← zC] at c0 c1 hy hn
   clear zC hcell yQ
   cases hv:f x
   ·have HE:Hid (bB f (k+1) (l.drop (k+1))=bB f 0 l):=by rw [← hn hv]; exact HR.out
    have AE:=fun p=>HC.out x p
    rw [hv] at AE
    clear hy hn hv
    go_wp2_with fail
    refine (aP nR (AE _)).mono ?_
    rintro e w1 ⟨rfl,q1,rfl⟩
    go_wp2
    go_roundw
    case rel=>exact ⟨k+1,oM,by go_num,⟨q1,rfl⟩,HE⟩
    case measure=>simp [intOf]; omega
   ·have HE:Hid ((k:Int)=bB f 0 l):=by rw [← hy hv]; exact HR.out
    have AE:=fun p=>HC.out x p
    rw [hv] at AE
    clear hy hn hv
    go_wp2_with fail
    refine (aP nR (AE _)).mono ?_
    rintro e w1 ⟨rfl,q1,rfl⟩
    go_wp2
    go_ret
    exact ⟨by rw [← HE.out]; rfl,q1.below⟩
  ·have HE:Hid (-1=bB f 0 l):=by
    have h1:=HR.out; rw [List.drop_eq_nil_of_le oM] at h1; exact h1
   clear yQ
   go_wp2
   go_ret
   exact ⟨by rw [← HE.out]; rfl,q.below⟩
theorem sa (t:ar) (gk:Nat) (kd:Int) (w:World) (hk:gk < w.heap.size) (hc:w.cell? ⟨gk,0,none⟩=some (O U kd)) :
  Calls xi 165 #[t.val,.pointer (some ⟨gk,0,none⟩)] w fun e w'=>e=.returned (.bool (decide (t.k=kd)))∧Below w.heap.size w w':=by
 have hc' : (w.alloc (.cells #[O U t.k,O U t.c] 104)).cell? ⟨gk,0,none⟩=some (O U kd):=(bZ w _).cell hk |>.trans hc
 by_cases hz:t.k=kd
 all_goals
  obtain ⟨v,hv⟩ : ∃ v,(t.k == kd)=v:=⟨_,rfl⟩
  have HV:Hid (decide (t.k=kd)=v):=by rw [← hv]; unfold Hid; rw [Bool.eq_iff_iff]; simp
  clear hz
  go_enter Tryz.func165,Tryz.ntmps165
  go_wp2
  go_ret
  exact ⟨by rw [HV.out]; rfl,jB.alloc nR _⟩
theorem br (x:aN) (g:Nat) (kd:Int) (w:World) (h:cu w w.heap.size g x) :
  Calls xi 116 #[.pointer (some ⟨g,0,none⟩),O U kd] w fun e w'=>e=.returned (O U (ay x.t kd))∧Below w.heap.size w w':=by
 have De:∀ (fn:Fn) (first cap:Array Value) (w:World),(Instr.makeFunc fn first cap).run xi w=.ok (.func fn first cap) w:=fun _ _ _ _=>rfl
 have b1:=bZ w (.cells #[O U kd] 3)
 have hL:=ai.new w 3 #[O U kd]
 have hA:=h.then (B':=(w.alloc (.cells #[O U kd] 3)).heap.size) b1 b1.size
 have c0:(w.alloc (.cells #[O U kd] 3)).cell? ⟨g,0,none⟩=some (F x.TA x.t.length x.tc):=hA.s.c0 (aq.start _ _)
 have HI:Hid (bB (fun t:ar=>decide (t.k=kd)) 0 x.t=ay x.t kd):=rfl
 go_enter Tryz.func116,Tryz.ntmps116
 go_wp2_with fail
 clear c0
 generalize w.alloc (.cells #[O U kd] 3)=W at b1 hL hA ⊢
 refine (pY (fun t:ar=>decide (t.k=kd)) 165 #[.pointer (some ⟨w.heap.size,0,none⟩)] Tryz.call165 _ _ _ _ (fun t p=>sa t w.heap.size kd _ (jL hL.lt p.size) ((p.cell hL.lt).trans (hL.cell 0))) hA.r.ts).mono ?_
 rintro e w1 ⟨rfl,xp⟩
 rw [HI.out]
 go_wp2
 go_ret
 exact ⟨rfl,av b1 xp⟩
theorem bQ (n:Int) (w:World):Calls xi 117 #[O U n] w fun e w'=>e=.returned (.bool (bX n 1 999))∧w=w':=by
 go_enter Tryz.func117,Tryz.ntmps117
 go_wp2_with fail
 refine (aM n 1 999 _).mono ?_
 rintro e w' ⟨rfl,rfl⟩
 go_wp2
 go_ret
 exact ⟨rfl,rfl⟩
theorem jI (x:aN) (g:Nat) (w:World) (h:cu w w.heap.size g x) (tl:x.t.length≤8) (ht:∀ i (hi:i < x.t.length),x.t[i].ok=true) :
  Calls xi 119 #[.pointer (some ⟨g,0,none⟩)] w fun e w'=>e=.returned (O U (cF x.t))∧Below w.heap.size w w':=by
 have HT:=jZ ht; clear ht
 have HF:Hid (gC 0 (x.t.drop 0)=cF x.t):=rfl
 have s0:w.cell? ⟨g,0,none⟩=some (F x.TA x.t.length x.tc):=h.s.c0 (aq.start _ _)
 have CR:=h.r.ts.el
 go_enter Tryz.func119,Tryz.ntmps119
 go_wp2
 clear s0
 go_loopw [3,11] (fun s i wr=>∃ (k:Nat) (t:Int),k≤x.t.length∧i=O U k∧s=O U t∧(0≤t∧t≤9999 * (k:Int))∧(∃ q:aq w.heap.size w,wr=q.val)∧Hid (gC t (x.t.drop k)=cF x.t)) (fun _ i _=>x.t.length - (intOf i).toNat)
 case atStart=>exact ⟨0,0,Nat.zero_le _,rfl,rfl,oM,⟨aq.start _ _,rfl⟩,HF⟩
 case round =>
  obtain ⟨k,t,hk,rfl,rfl,⟨t0,t1⟩,⟨q,rfl⟩,HR⟩:=hrel
  by_cases xu:k < x.t.length
  ·obtain ⟨b,off,hA,hb,hcell⟩:=CR oM
   obtain ⟨e0,e1⟩:=hcell k xu
   obtain ⟨_,x1,x2⟩:=ar.bounds (HT.out k xu)
   have HS:=jZ (tJ xu t)
   obtain ⟨r,xW⟩ : ∃ r,r=x.t[k]:=⟨_,rfl⟩
   rw [← xW] at e0 e1 HS x1 x2
   clear xW hcell CR
   go_wp2
   go_roundw
   case rel=>exact ⟨k+1,t+r.c,oM,by go_num,rfl,oM,⟨⟨_,q.below.alloc q.size _⟩,rfl⟩,by have h1:=HR.out; rw [HS.out] at h1; exact h1⟩
   case measure=>simp [intOf]; omega
  ·have HE:Hid (t=cF x.t):=by
    have h1:=HR.out; rw [List.drop_eq_nil_of_le oM] at h1; exact h1
   clear CR
   go_wp2
   go_ret
   exact ⟨by rw [← HE.out]; rfl,q.below⟩
theorem fG (f:ae→Bool) (kf:Nat) (lb:Array Value) (eg:∀ args w,(callFunc kf args).run xi w=.ok (.enter kf args) w) (x:aN) (g:Nat) (w:World)
  (hf:∀ (o:ae) (p:aq w.heap.size w),Calls xi kf (#[o.val]++lb) p.val fun e w'=>e=.returned (.bool (f o))∧Below p.val.heap.size p.val w')
  (h:cu w w.heap.size g x) (ol:x.o.length≤8) (ho:∀ i (hi:i < x.o.length),x.o[i].ok x.t=true) :
  Calls xi 120 #[.pointer (some ⟨g,0,none⟩),.func (.func kf) #[] lb] w fun e w'=>e=.returned (O U (aW f x.o))∧Below w.heap.size w w':=by
 have HO:=jZ ho; clear ho
 have HC:=jZ hf; clear hf
 have HF:Hid (bI f 0 (x.o.drop 0)=aW f x.o):=rfl
 have s1:w.cell? ⟨g,1,none⟩=some (F x.OA x.o.length x.oc):=h.s.c1 (aq.start _ _)
 have yt:=h.r.os.el
 generalize x.OA=OA at s1 yt
 go_enter Tryz.func120,Tryz.ntmps120
 go_wp2
 clear s1
 go_loopw [5,13] (fun s i wr=>∃ (k:Nat) (t:Int),k≤x.o.length∧i=O U k∧s=O U t∧(0≤t∧t≤9999 * (k:Int))∧(∃ q:aq w.heap.size w,wr=q.val)∧Hid (bI f t (x.o.drop k)=aW f x.o)) (fun _ i _=>x.o.length - (intOf i).toNat)
 case atStart=>exact ⟨0,0,Nat.zero_le _,rfl,rfl,oM,⟨aq.start _ _,rfl⟩,HF⟩
 case round =>
  obtain ⟨k,t,hk,rfl,rfl,⟨t0,t1⟩,⟨q,rfl⟩,HR⟩:=hrel
  by_cases xu:k < x.o.length
  ·obtain ⟨b,off,rfl,hb,hcell⟩:=yt oM
   obtain ⟨e0,e1,e2⟩:=hcell k xu
   obtain ⟨_,_,x1,x2⟩:=ae.bounds (HO.out k xu)
   have HS:=jZ (lC (f:=f) xu t)
   obtain ⟨r,xW⟩ : ∃ r,r=x.o[k]:=⟨_,rfl⟩
   rw [← xW] at e0 e1 e2 HS x1 x2
   clear xW hcell yt
   have hbV:=q.below.alloc q.size (.cells #[O U r.k,O U r.p,O U r.c] 147)
   have hlV:=ai.new q.val 147 #[O U r.k,O U r.p,O U r.c]
   have AE:=fun p=>HC.out r p
   cases hv:f r
   all_goals
    rw [hv] at AE HS
    clear hv
    go_wp2_with fail
    generalize q.val.alloc (.cells #[O U r.k,O U r.p,O U r.c] 147)=V at hbV hlV ⊢
    refine (AE ⟨V,hbV⟩).mono ?_
    rintro e w1 ⟨rfl,xp⟩
    have d2:=(hlV.below xp hlV.lt).cell 2
    simp only [gz0,gz1] at d2
    go_wp2
   ·go_roundw
    case rel=>exact ⟨k+1,t,oM,by go_num,rfl,oM,⟨⟨w1,hbV.trans (xp.mono hbV.size)⟩,rfl⟩,by have h1:=HR.out; rw [HS.out] at h1; exact h1⟩
    case measure=>simp [intOf]; omega
   ·go_roundw
    case rel=>exact ⟨k+1,t+r.c,oM,by go_num,rfl,oM,⟨⟨w1,hbV.trans (xp.mono hbV.size)⟩,rfl⟩,by have h1:=HR.out; rw [HS.out] at h1; exact h1⟩
    case measure=>simp [intOf]; omega
  ·have HE:Hid (t=aW f x.o):=by
    have h1:=HR.out; rw [List.drop_eq_nil_of_le oM] at h1; exact h1
   clear yt
   go_wp2
   go_ret
   exact ⟨by rw [← HE.out]; rfl,q.below⟩
theorem sc (o:ae) (w:World):Calls xi 121 #[o.val] w fun e w'=>e=.returned (.bool true)∧Below w.heap.size w w':=by
 go_enter Tryz.func121,Tryz.ntmps121
 go_wp2
 go_ret
 exact ⟨rfl,jB.alloc nR _⟩
def iQ (a b:Int):Int:=if a < b then -1 else if b < a then 1 else 0
theorem pu (a:Int) (w:World):Calls xi 192 #[O U a] w fun e w'=>e=.returned (.bool false)∧w=w':=by
 have hv:(a != a)=false:=sP
 go_enter Tryz.func192,Tryz.ntmps192
 go_wp2
 go_ret
 exact ⟨rfl,rfl⟩
theorem kl (a b:Int) (w:World):Calls xi 167 #[O U a,O U b] w fun e w'=>e=.returned (O U (iQ a b))∧w=w':=by
 have ha:=fun W=>pu a W
 have hb:=fun W=>pu b W
 by_cases h1:a < b
 ·have HE:Hid (iQ a b = -1):=by unfold Hid iQ; rw [if_pos h1]
  go_enter Tryz.func167,Tryz.ntmps167
  go_wp2_with fail
  refine (ha _).mono ?_
  rintro e w' ⟨rfl,rfl⟩
  go_wp2_with fail
  refine (hb _).mono ?_
  rintro e w' ⟨rfl,rfl⟩
  go_wp2
  go_ret
  exact ⟨by rw [HE.out]; rfl,rfl⟩
 ·by_cases h2:b < a
  ·have HE:Hid (iQ a b=1):=by unfold Hid iQ; rw [if_neg h1,if_pos h2]
   go_enter Tryz.func167,Tryz.ntmps167
   go_wp2_with fail
   refine (ha _).mono ?_
   rintro e w' ⟨rfl,rfl⟩
   go_wp2_with fail
   refine (hb _).mono ?_
   rintro e w' ⟨rfl,rfl⟩
   go_wp2
   go_ret
   exact ⟨by rw [HE.out]; rfl,rfl⟩
  ·have HE:Hid (iQ a b=0):=by unfold Hid iQ; rw [if_neg h1,if_neg h2]
   go_enter Tryz.func167,Tryz.ntmps167
   go_wp2_with fail
   refine (ha _).mono ?_
   rintro e w' ⟨rfl,rfl⟩
   go_wp2_with fail
   refine (hb _).mono ?_
   rintro e w' ⟨rfl,rfl⟩
   go_wp2
   go_ret
   exact ⟨by rw [HE.out]; rfl,rfl⟩
def we (a b:Int):Int:=if a=0 then b else a
theorem wg (a b:Int) (g c:Nat) (w:World) (h0:w.cell? ⟨g,0,none⟩=some (O U a)) (h1:w.cell? ⟨g,1,none⟩=some (O U b)) :
  Calls xi 166 #[F (some ⟨g,0,none⟩) 2 c] w fun e w'=>e=.returned (O U (we a b))∧w=w':=by
 by_cases ha:a=0
 ·have va:(a != 0)=false:=by simp [ha]
  have HE:Hid (we a b=b):=by unfold Hid we; rw [if_pos ha]
  clear ha
  by_cases hb:b=0
  ·have vb:(b != 0)=false:=by simp [hb]
   have HB:=jZ hb; clear hb
   go_enter Tryz.func166,Tryz.ntmps166
   go_wp2
   refine wp_loop_rounds 3 ?_
   rw [rounds_succ]
   go_wp2
   rw [rounds_succ]
   go_wp2
   rw [rounds_succ]
   go_wp2
   go_ret
   exact ⟨by rw [HE.out,HB.out]; rfl,rfl⟩
  ·have vb:(b != 0)=true:=by simp [hb]
   clear hb
   go_enter Tryz.func166,Tryz.ntmps166
   go_wp2
   refine wp_loop_rounds 2 ?_
   rw [rounds_succ]
   go_wp2
   rw [rounds_succ]
   go_wp2
   go_ret
   exact ⟨by rw [HE.out]; rfl,rfl⟩
 ·have va:(a != 0)=true:=by simp [ha]
  have HE:Hid (we a b=a):=by unfold Hid we; rw [if_neg ha]
  clear ha
  go_enter Tryz.func166,Tryz.ntmps166
  go_wp2
  refine wp_loop_rounds 1 ?_
  rw [rounds_succ]
  go_wp2
  go_ret
  exact ⟨by rw [HE.out]; rfl,rfl⟩
def jJ (a b:ae):Int:=we (iQ a.k b.k) (iQ a.p b.p)
theorem mX (a b:ae):decide (0≤jJ a b) = !(before a b):=by
 unfold jJ we iQ before
 by_cases h1:a.k < b.k
 ·simp [h1]
 ·by_cases h2:b.k < a.k
  ·have h3:a.k ≠ b.k:=oM
   simp [h1,h2,h3]
  ·have h3:a.k=b.k:=oM
   by_cases h4:a.p < b.p
   ·simp [h3,h4]
   ·by_cases h5:b.p < a.p
    ·simp [h3,h4,h5]
    ·simp [h3,h4,h5]
theorem ix (a b:ae) (w:World):Calls xi 118 #[a.val,b.val] w fun e w'=>e=.returned (O U (jJ a b))∧Below w.heap.size w w':=by
 have b1:=bZ w (.cells #[O U a.k,O U a.p,O U a.c] 147)
 have b2:=b1.alloc b1.size (.cells #[O U b.k,O U b.p,O U b.c] 147)
 have L1:=(ai.new w 147 #[O U a.k,O U a.p,O U a.c]).alloc (.cells #[O U b.k,O U b.p,O U b.c] 147)
 have L2:=ai.new1 w (.cells #[O U a.k,O U a.p,O U a.c] 147) 147 #[O U b.k,O U b.p,O U b.c]
 clear b1
 obtain ⟨X,hX⟩ : ∃ X,iQ a.k b.k=X:=⟨_,rfl⟩
 obtain ⟨Y,hY⟩ : ∃ Y,iQ a.p b.p=Y:=⟨_,rfl⟩
 have HO:Hid (jJ a b=we X Y):=by rw [← hX,← hY]; rfl
 have cX:=fun W=>kl a.k b.k W
 have cY:=fun W=>kl a.p b.p W
 rw [hX] at cX
 rw [hY] at cY
 clear hX hY
 go_enter Tryz.func118,Tryz.ntmps118
 go_wp2
 generalize ((w.alloc (.cells #[O U a.k,O U a.p,O U a.c] 147)).alloc (.cells #[O U b.k,O U b.p,O U b.c] 147))=W at b2 L1 L2 ⊢
 have c0:=L1.cell 0
 have c1:=L1.cell 1
 have d0:=L2.cell 0
 have d1:=L2.cell 1
 simp only [gz0,gz1] at c0 c1 d0 d1
 have HK:∀ W',Below W.heap.size W W'→(Below W.heap.size W W'∧W'.cell? ⟨w.heap.size,0,none⟩=some (O U a.k)∧W'.cell? ⟨w.heap.size,1,none⟩=some (O U a.p)∧W'.cell? ⟨w.heap.size+1,0,none⟩=some (O U b.k)∧W'.cell? ⟨w.heap.size+1,1,none⟩=some (O U b.p)):=fun W' hb =>
  ⟨hb,(hb.cell L1.lt).trans c0,(hb.cell L1.lt).trans c1,(hb.cell L2.lt).trans d0,(hb.cell L2.lt).trans d1⟩
 have Ed:(W.alloc (.cells #[O U X,O U Y] 3)).drew.cell? ⟨W.heap.size,0,none⟩=some (O U X):=(ai.new W 3 #[O U X,O U Y]).cell 0
 have Cy:(W.alloc (.cells #[O U X,O U Y] 3)).drew.cell? ⟨W.heap.size,1,none⟩=some (O U Y):=(ai.new W 3 #[O U X,O U Y]).cell 1
 go_region_held3 (fun W'=>Below W.heap.size W W'∧W'.cell? ⟨w.heap.size,0,none⟩=some (O U a.k)∧W'.cell? ⟨w.heap.size,1,none⟩=some (O U a.p)∧W'.cell? ⟨w.heap.size+1,0,none⟩=some (O U b.k)∧W'.cell? ⟨w.heap.size+1,1,none⟩=some (O U b.p)) (first | exact HK _ jB.drew | exact HK _ ((jB.drew).alloc (by first | exact Nat.le_refl _ | simp) _) | (exact HK _ (by assumption))) (first | (go_at_call 167; with_reducible refine (cX _).mono ?_; rintro e w8 ⟨rfl,rfl⟩) | (go_at_call 167; with_reducible refine (cY _).mono ?_; rintro e w8 ⟨rfl,rfl⟩) | (go_at_call 166; refine (wg X Y W.heap.size 2 (W.alloc (.cells #[O U X,O U Y] 3)).drew Ed Cy).mono ?_; rintro e w9 ⟨rfl,rfl⟩))
 all_goals
  go_wp2
  go_ret
  exact ⟨by rw [HO.out]; rfl,av b2 (bZ W _).drew⟩
set_option maxRecDepth 100000 in
theorem mo (x:aN) (g:Nat) (w:World) (h:cu w w.heap.size g x) (AF:(fq x && je x)=false) :
  Calls xi 67 #[.pointer (some ⟨g,0,none⟩)] w fun e w'=>e=.returned (.bool (ap x))∧Below w.heap.size w w':=by
 have s0:w.cell? ⟨g,0,none⟩=some (F x.TA x.t.length x.tc):=h.s.c0 (aq.start _ _)
 have s1:w.cell? ⟨g,1,none⟩=some (F x.OA x.o.length x.oc):=h.s.c1 (aq.start _ _)
 have s2:w.cell? ⟨g,2,none⟩=some (O U x.gt):=h.s.c2 (aq.start _ _)
 have s3:w.cell? ⟨g,3,none⟩=some (O U x.sd):=h.s.c3 (aq.start _ _)
 have s4:w.cell? ⟨g,4,none⟩=some (O U x.ms):=h.s.c4 (aq.start _ _)
 have hl:=h.r.ts.big
 have hm:=h.r.os.big
 have c3:=fun W=>aM x.gt 0 99999 W
 have c4:=fun W=>aM x.sd 0 99999 W
 have c5:=fun W=>aM x.ms 0 99999 W
 have Ml:=jZ AF; clear AF
 have HG:Hid (ap x=(fq x && (bX x.gt 0 99999 && bX x.sd 0 99999 && bX x.ms 0 99999) && fp x.t && fh x.t x.o && lD x)):=rfl
 by_cases hz:x.t.length≤8∧x.o.length≤8
 ·obtain ⟨tl,ol⟩:=hz
  have HZ:Hid (fq x=true):=by unfold Hid fq; rw [jD tl,jD ol]; rfl
  obtain ⟨v3,zP⟩ : ∃ v,bX x.gt 0 99999=v:=⟨_,rfl⟩
  obtain ⟨v4,Bk⟩ : ∃ v,bX x.sd 0 99999=v:=⟨_,rfl⟩
  obtain ⟨v5,Aw⟩ : ∃ v,bX x.ms 0 99999=v:=⟨_,rfl⟩
  rw [zP] at c3
  rw [Bk] at c4
  rw [Aw] at c5
  rw [zP,Bk,Aw] at HG
  have zD:=jZ zP; clear zP
  have Dd:=jZ Bk; clear Bk
  have Js:=jZ Aw; clear Aw
  by_cases zm:(v3 && v4 && v5)=true
  ·exfalso
   have hn:je x=true:=by unfold je; rw [zD.out,Dd.out,Js.out]; exact zm
   have AF:=Ml.out
   rw [HZ.out,hn] at AF; cases AF
  ·have Gc:Hid (ap x=false):=by
    unfold Hid; rw [HG.out,HZ.out]
    cases v3 <;> cases v4 <;> cases v5 <;> first | rfl | exact absurd rfl zm
   cases v3
   all_goals (try cases v4)
   all_goals (try cases v5)
   all_goals first
    | exact absurd rfl zm
    | skip
   all_goals
    clear zm
    go_enter Tryz.func67,Tryz.ntmps67
    go_wp2_with fail
    refine (c3 _).mono ?_
    rintro e w3 ⟨rfl,rfl⟩
    go_wp2_with (first | (go_at_call 75; with_reducible refine (c4 _).mono ?_; rintro e w4 ⟨rfl,rfl⟩) | (go_at_call 75; with_reducible refine (c5 _).mono ?_; rintro e w4 ⟨rfl,rfl⟩))
    go_ret
    exact ⟨by rw [Gc.out]; rfl,Below.refl _ _⟩
 ·have Gc:Hid (ap x=false):=by
   unfold Hid; rw [HG.out]
   have:fq x=false:=by
    unfold fq
    by_cases h1:x.t.length≤8
    ·rw [jE (show ¬ x.o.length≤8 from fun h2=>hz ⟨h1,h2⟩),Bool.and_false]
    ·rw [jE h1,Bool.false_and]
   rw [this]; rfl
  by_cases h1:x.t.length≤8
  ·have h2 : ¬ x.o.length≤8:=fun h2=>hz ⟨h1,h2⟩
   clear hz
   go_enter Tryz.func67,Tryz.ntmps67
   go_wp2
   go_ret
   exact ⟨by rw [Gc.out]; rfl,Below.refl _ _⟩
  ·clear hz
   go_enter Tryz.func67,Tryz.ntmps67
   go_wp2
   go_ret
   exact ⟨by rw [Gc.out]; rfl,Below.refl _ _⟩
theorem se (o:ae) (w:World):Calls xi 121 (#[o.val]++#[]) w fun e w'=>e=.returned (.bool (dq o))∧Below w.heap.size w w':=sc o w
set_option maxRecDepth 100000 in
theorem lG (x:aN) (g:Nat) (w:World) (h:cu w w.heap.size g x) (Df:(fq x && je x)=true) :
  Calls xi 67 #[.pointer (some ⟨g,0,none⟩)] w fun e w'=>e=.returned (.bool (ap x))∧Below w.heap.size w w':=by
 have s0:w.cell? ⟨g,0,none⟩=some (F x.TA x.t.length x.tc):=h.s.c0 (aq.start _ _)
 have s1:w.cell? ⟨g,1,none⟩=some (F x.OA x.o.length x.oc):=h.s.c1 (aq.start _ _)
 have s2:w.cell? ⟨g,2,none⟩=some (O U x.gt):=h.s.c2 (aq.start _ _)
 have s3:w.cell? ⟨g,3,none⟩=some (O U x.sd):=h.s.c3 (aq.start _ _)
 have s4:w.cell? ⟨g,4,none⟩=some (O U x.ms):=h.s.c4 (aq.start _ _)
 have c3:=fun W=>aM x.gt 0 99999 W
 have c4:=fun W=>aM x.sd 0 99999 W
 have c5:=fun W=>aM x.ms 0 99999 W
 have HG:Hid (ap x=(fp x.t && fh x.t x.o && lD x)):=by
  unfold Hid ap; rw [Df,Bool.true_and]
 rw [Bool.and_eq_true] at Df
 have hz:=Df.1
 have hn:=Df.2
 unfold fq at hz
 unfold je at hn
 rw [Bool.and_eq_true] at hz hn
 rw [Bool.and_eq_true] at hn
 obtain ⟨⟨zP,Bk⟩,Aw⟩:=hn
 have tl:x.t.length≤8:=of_decide_eq_true hz.1
 have ol:x.o.length≤8:=of_decide_eq_true hz.2
 clear hz Df
 rw [zP] at c3
 rw [Bk] at c4
 rw [Aw] at c5
 obtain ⟨g1,g2⟩:=bV.1 zP
 obtain ⟨g3,g4⟩:=bV.1 Bk
 obtain ⟨g5,g6⟩:=bV.1 Aw
 clear zP Bk Aw
 have CR:=h.r.ts.el
 have yt:=h.r.os.el
 obtain ⟨p0,p1,p2,p3,p4⟩:=h.s
 obtain ⟨TA,zI⟩ : ∃ A,x.TA=A:=⟨_,rfl⟩
 obtain ⟨OA,yJ⟩ : ∃ A,x.OA=A:=⟨_,rfl⟩
 rw [zI] at s0 CR
 rw [yJ] at s1 yt
 simp only [zI] at p0
 simp only [yJ] at p1
 clear zI yJ
 go_enter Tryz.func67,Tryz.ntmps67
 go_wp2_with fail
 refine (c3 _).mono ?_
 rintro e w3 ⟨rfl,rfl⟩
 go_wp2_with fail
 refine (c4 _).mono ?_
 rintro e w3 ⟨rfl,rfl⟩
 go_wp2_with fail
 refine (c5 _).mono ?_
 rintro e w3 ⟨rfl,rfl⟩
 go_wp2
 clear s0 s1 s2 s3 s4 c3 c4 c5
 go_loopw [50] (fun i wr=>∃ (k:Nat) (prev:Int),k≤x.t.length∧i=O U k∧(∃ q:aq w.heap.size w,wr=q.val)∧Hid (du k prev (x.t.drop k)=fp x.t)∧Hid (∀ (_hk:0 < k) (h' : k - 1 < x.t.length),prev=x.t[k - 1].k)) (fun i _=>x.t.length - (intOf i).toNat)
 case atStart=>exact ⟨0,0,Nat.zero_le _,rfl,⟨aq.start _ _,rfl⟩,rfl,fun h=>absurd h oM⟩
 case round =>
  obtain ⟨k,prev,hk,rfl,⟨q,rfl⟩,HR,HP⟩:=hrel
  by_cases xu:k < x.t.length
  ·obtain ⟨b,off,rfl,hb,hcell⟩:=CR oM
   obtain ⟨e0,e1⟩:=hcell k xu
   have HC:Hid (0 < k→∀ p:aq w.heap.size w,p.val.cell? ⟨b,off+(k - 1) * 2,none⟩=some (O U prev)):=fun h p=>by
    rw [HP.out h oM]; exact (hcell (k - 1) oM).c0 p
   have HS:=jZ (nX (n:=k) (p:=prev) xu)
   obtain ⟨r,xW⟩ : ∃ r,r=x.t[k]:=⟨_,rfl⟩
   have HN:Hid (∀ (_hk:0 < k+1) (h' : k+1 - 1 < x.t.length),r.k=x.t[k+1 - 1].k):=fun _ h'=>by rw [xW]; rfl
   rw [← xW] at e0 e1 HS
   clear xW hcell CR yt
   go_wp2
   have hbV:=q.below.alloc q.size (.cells #[O U r.k,O U r.c] 104)
   have hlV:=ai.new q.val 104 #[O U r.k,O U r.c]
   generalize q.val.alloc (.cells #[O U r.k,O U r.c] 104)=V at hbV hlV ⊢
   generalize q.val.heap.size=gv at hlV ⊢
   obtain ⟨d0,d1⟩:=mV.of (r:=r) hlV
   have p0' : ∀ p:aq V.heap.size V,p.val.cell? ⟨g,0,none⟩=some (F (some ⟨b,off,none⟩) x.t.length x.tc):=fun p=>p0 ⟨p.val,hbV.trans (p.below.mono hbV.size)⟩
   have xF:Hid (r.ok=(bX r.k 1 99 && bX r.c 0 9999)):=rfl
   clear e0 e1
   obtain ⟨v1,BG⟩ : ∃ v,bX r.k 1 99=v:=⟨_,rfl⟩
   obtain ⟨v2,xV⟩ : ∃ v,bX r.c 0 9999=v:=⟨_,rfl⟩
   rw [BG,xV] at xF
   have zB:=jZ BG; clear BG
   have yS:=jZ xV; clear xV
   rcases Nat.eq_zero_or_pos k with h0 | h0
   ·have hd:decide (0 < k)=false:=jE oM
    have H0:=jZ h0; clear h0
    cases v1
    ·refine aw kZ kZ ?_
     repeat (any_goals (first | go_big_quiet_step ((go_at_call 75; with_reducible refine aB zB (aM r.k 1 99 _))) | (refine wpQuiet_step (fun K hK=>?_); go_simp; split <;> (refine hK _ ?_; clear hK K))))
     all_goals (refine wpQuiet_nil ?_; rintro _ ⟨q1,rfl⟩)
     all_goals have xp:=hbV.trans (q1.below.mono hbV.size)
     all_goals go_wp2
     go_ret
     refine ⟨?_,xp⟩
     rw [HG.out,← HR.out,HS.out,xF.out]; rfl
    ·cases v2
     all_goals
      refine aw kZ kZ ?_
      repeat (any_goals (first | go_big_quiet_step ((first | (go_at_call 75; with_reducible refine aB zB (aM r.k 1 99 _)) | (go_at_call 75; with_reducible refine aB yS (aM r.c 0 9999 _)))) | (refine wpQuiet_step (fun K hK=>?_); go_simp; split <;> (refine hK _ ?_; clear hK K))))
      all_goals (refine wpQuiet_nil ?_; rintro _ ⟨q1,rfl⟩)
      all_goals have xp:=hbV.trans (q1.below.mono hbV.size)
      all_goals go_wp2
     ·go_ret
      refine ⟨?_,xp⟩
      rw [HG.out,← HR.out,HS.out,xF.out]; rfl
     ·go_roundw
      case rel=>exact ⟨k+1,r.k,oM,by go_num,⟨⟨_,hbV.trans (q1.below.mono hbV.size)⟩,rfl⟩,by have h1:=HR.out; rw [HS.out,xF.out,jD H0.out] at h1; exact h1,HN⟩
      case measure=>simp [intOf]; omega
   ·have c5:∀ p:aq V.heap.size V,p.val.cell? ⟨b,off+(k - 1) * 2,none⟩=some (O U prev):=fun p=>HC.out h0 ⟨p.val,hbV.trans (p.below.mono hbV.size)⟩
    have h0' : (0:Int) < (k:Int):=oM
    cases v1
    ·refine aw kZ kZ ?_
     repeat (any_goals (first | go_big_quiet_step ((go_at_call 75; with_reducible refine aB zB (aM r.k 1 99 _))) | (refine wpQuiet_step (fun K hK=>?_); go_simp; split <;> (refine hK _ ?_; clear hK K))))
     all_goals (refine wpQuiet_nil ?_; rintro _ ⟨q1,rfl⟩)
     all_goals have xp:=hbV.trans (q1.below.mono hbV.size)
     all_goals go_wp2
     go_ret
     refine ⟨?_,xp⟩
     rw [HG.out,← HR.out,HS.out,xF.out]; rfl
    ·cases v2
     all_goals
      refine aw kZ kZ ?_
      repeat (any_goals (first | go_big_quiet_step ((first | (go_at_call 75; with_reducible refine aB zB (aM r.k 1 99 _)) | (go_at_call 75; with_reducible refine aB yS (aM r.c 0 9999 _)))) | (refine wpQuiet_step (fun K hK=>?_); go_simp; split <;> (refine hK _ ?_; clear hK K))))
      all_goals (refine wpQuiet_nil ?_; rintro _ ⟨q1,rfl⟩)
      all_goals have xp:=hbV.trans (q1.below.mono hbV.size)
      all_goals go_wp2
     ·go_ret
      refine ⟨?_,xp⟩
      rw [HG.out,← HR.out,HS.out,xF.out]; rfl
     ·go_ret
      refine ⟨?_,xp⟩
      have hm:r.k≤prev:=by assumption
      rw [HG.out,← HR.out,HS.out,xF.out,jE (by omega : ¬ k=0),jE (by omega : ¬ prev < r.k)]; rfl
     ·have hm:prev < r.k:=by assumption
      go_roundw
      case rel=>exact ⟨k+1,r.k,oM,by go_num,⟨⟨_,hbV.trans (q1.below.mono hbV.size)⟩,rfl⟩,by have h1:=HR.out; rw [HS.out,xF.out,jD hm,Bool.or_true] at h1; exact h1,HN⟩
      case measure=>simp [intOf]; omega
  ·have hK:fp x.t=true:=by
    have h1:=HR.out
    rw [List.drop_eq_nil_of_le oM] at h1; exact h1.symm
   have AO:=jZ (gL _ _ _ hK)
   have HK:=jZ hK; clear hK
   have Mm:=p1 q
   clear CR
   go_wp2
   go_loopw [89] (fun i wr=>∃ (k:Nat) (prev:Option ae),k≤x.o.length∧i=O U k∧(∃ q:aq w.heap.size w,wr=q.val)∧Hid (dQ x.t prev (x.o.drop k)=fh x.t x.o)∧Hid ((k=0→prev=none)∧∀ (_hk:0 < k) (h' : k - 1 < x.o.length),prev=some x.o[k - 1]∧x.o[k - 1].ok x.t=true)) (fun i _=>x.o.length - (intOf i).toNat)
   case atStart=>exact ⟨0,none,Nat.zero_le _,rfl,⟨q,rfl⟩,rfl,fun _=>rfl,fun h=>absurd h oM⟩
   case round =>
    clear xu HR HP Mm
    obtain ⟨k,prev,hk,rfl,⟨q,rfl⟩,HR,HP⟩:=hrel
    by_cases xu:k < x.o.length
    ·obtain ⟨b,off,rfl,hb,hcell⟩:=yt oM
     obtain ⟨e0,e1,e2⟩:=hcell k xu
     have HS:=jZ (pr (ts:=x.t) (p:=prev) xu)
     obtain ⟨r,xW⟩ : ∃ r,r=x.o[k]:=⟨_,rfl⟩
     have HN:Hid (r.ok x.t=true→(k+1=0→some r=none)∧∀ (_hk:0 < k+1) (h' : k+1 - 1 < x.o.length),some r=some x.o[k+1 - 1]∧x.o[k+1 - 1].ok x.t=true):=fun ho=>⟨fun h=>by omega,fun _ h'=>⟨by rw [xW]; rfl,by rw [xW] at ho; exact ho⟩⟩
     have HC:Hid (∀ _:0 < k,∃ u:ae,prev=some u∧u.ok x.t=true∧f9 w.heap.size w b (off+(k - 1) * 3) u):=fun h=>⟨x.o[k - 1],(HP.out.2 h oM).1,(HP.out.2 h oM).2,hcell (k - 1) oM⟩
     rw [← xW] at e0 e1 e2 HS
     clear xW hcell yt
     go_wp2
     have hbV:=q.below.alloc q.size (.cells #[O U r.k,O U r.p,O U r.c] 147)
     have hlV:=ai.new q.val 147 #[O U r.k,O U r.p,O U r.c]
     generalize q.val.alloc (.cells #[O U r.k,O U r.p,O U r.c] 147)=V at hbV hlV ⊢
     generalize q.val.heap.size=gv at hlV ⊢
     obtain ⟨d0,d1,d2⟩:=f9.of (r:=r) hlV
     have up:∀ {a:Addr} {u:Value},(∀ p:aq w.heap.size w,p.val.cell? a=some u)→∀ p:aq V.heap.size V,p.val.cell? a=some u:=fun h p=>h ⟨p.val,hbV.trans (p.below.mono hbV.size)⟩
     have z1:=up p1
     have EF:∀ p:aq V.heap.size V,cu p.val p.val.heap.size g x:=fun p=>h.at ⟨p.val,hbV.trans (p.below.mono hbV.size)⟩
     have xF:Hid (r.ok x.t=(aS x.t r.k && bX r.p 1 999 && bX r.c 1 9999)):=rfl
     clear e0 e1 e2
     obtain ⟨X,hX⟩ : ∃ X,ay x.t r.k=X:=⟨_,rfl⟩
     have HX:Hid (Value.int .i64 (ay x.t r.k)=O U X):=by rw [hX]; rfl
     have HH:Hid (aS x.t r.k=decide (0≤X)):=by rw [← hX]; exact (dP _ _).symm
     obtain ⟨v2,xV⟩ : ∃ v,bX r.p 1 999=v:=⟨_,rfl⟩
     obtain ⟨v3,zP⟩ : ∃ v,bX r.c 1 9999=v:=⟨_,rfl⟩
     rw [xV,zP] at xF
     have yS:=jZ xV; clear xV
     have zD:=jZ zP; clear zP
     clear hX
     by_cases Au:0≤X
     ·have Bb:decide (X < 0)=false:=jE oM
      have Av:Hid (decide (0≤X)=true):=jD Au
      cases v2
      ·rcases Nat.eq_zero_or_pos k with h0 | h0
       ·have hd:decide (0 < k)=false:=jE oM
        clear h0
        refine aw kZ kZ ?_
        repeat (any_goals (first | go_big_quiet_step ((first | (go_at_call 116; with_reducible refine aU HX nR (br x g r.k _ (EF _))) | (go_at_call 117; with_reducible refine aB yS (bQ r.p _)))) | (refine wpQuiet_step (fun K hK=>?_); go_simp; split <;> (refine hK _ ?_; clear hK K))))
        all_goals (refine wpQuiet_nil ?_; rintro _ ⟨q1,rfl⟩)
        all_goals have xp:=hbV.trans (q1.below.mono hbV.size)
        all_goals go_wp2
        go_ret
        refine ⟨?_,xp⟩
        rw [HG.out,HK.out,← HR.out,HS.out,xF.out,Bool.and_false]; rfl
       ·have h0' : (0:Int) < (k:Int):=oM
        refine aw kZ kZ ?_
        repeat (any_goals (first | go_big_quiet_step ((first | (go_at_call 116; with_reducible refine aU HX nR (br x g r.k _ (EF _))) | (go_at_call 117; with_reducible refine aB yS (bQ r.p _)))) | (refine wpQuiet_step (fun K hK=>?_); go_simp; split <;> (refine hK _ ?_; clear hK K))))
        all_goals (refine wpQuiet_nil ?_; rintro _ ⟨q1,rfl⟩)
        all_goals have xp:=hbV.trans (q1.below.mono hbV.size)
        all_goals go_wp2
        go_ret
        refine ⟨?_,xp⟩
        rw [HG.out,HK.out,← HR.out,HS.out,xF.out,Bool.and_false]; rfl
      ·cases v3
       ·rcases Nat.eq_zero_or_pos k with h0 | h0
        ·have hd:decide (0 < k)=false:=jE oM
         clear h0
         refine aw kZ kZ ?_
         repeat (any_goals (first | go_big_quiet_step ((first | (go_at_call 116; with_reducible refine aU HX nR (br x g r.k _ (EF _))) | (go_at_call 117; with_reducible refine aB yS (bQ r.p _)) | (go_at_call 75; with_reducible refine aB zD (aM r.c 1 9999 _)))) | (refine wpQuiet_step (fun K hK=>?_); go_simp; split <;> (refine hK _ ?_; clear hK K))))
         all_goals (refine wpQuiet_nil ?_; rintro _ ⟨q1,rfl⟩)
         all_goals have xp:=hbV.trans (q1.below.mono hbV.size)
         all_goals go_wp2
         go_ret
         refine ⟨?_,xp⟩
         rw [HG.out,HK.out,← HR.out,HS.out,xF.out,Bool.and_false]; rfl
        ·have h0' : (0:Int) < (k:Int):=oM
         refine aw kZ kZ ?_
         repeat (any_goals (first | go_big_quiet_step ((first | (go_at_call 116; with_reducible refine aU HX nR (br x g r.k _ (EF _))) | (go_at_call 117; with_reducible refine aB yS (bQ r.p _)) | (go_at_call 75; with_reducible refine aB zD (aM r.c 1 9999 _)))) | (refine wpQuiet_step (fun K hK=>?_); go_simp; split <;> (refine hK _ ?_; clear hK K))))
         all_goals (refine wpQuiet_nil ?_; rintro _ ⟨q1,rfl⟩)
         all_goals have xp:=hbV.trans (q1.below.mono hbV.size)
         all_goals go_wp2
         go_ret
         refine ⟨?_,xp⟩
         rw [HG.out,HK.out,← HR.out,HS.out,xF.out,Bool.and_false]; rfl
       ·have Bc:Hid (r.ok x.t=true):=by unfold Hid; rw [xF.out,HH.out,Av.out]; rfl
        rcases Nat.eq_zero_or_pos k with h0 | h0
        ·have hd:decide (0 < k)=false:=jE oM
         have BP:Hid (prev=none):=HP.out.1 h0
         clear h0
         refine aw kZ kZ ?_
         repeat (any_goals (first | go_big_quiet_step ((first | (go_at_call 116; with_reducible refine aU HX nR (br x g r.k _ (EF _))) | (go_at_call 117; with_reducible refine aB yS (bQ r.p _)) | (go_at_call 75; with_reducible refine aB zD (aM r.c 1 9999 _)))) | (refine wpQuiet_step (fun K hK=>?_); go_simp; split <;> (refine hK _ ?_; clear hK K))))
         all_goals (refine wpQuiet_nil ?_; rintro _ ⟨q1,rfl⟩)
         all_goals have xp:=hbV.trans (q1.below.mono hbV.size)
         all_goals go_wp2
         go_roundw
         case rel=>exact ⟨k+1,some r,oM,by go_num,⟨⟨_,xp⟩,rfl⟩,by have h1:=HR.out; rw [HS.out,Bc.out,BP.out] at h1; exact h1,HN.out Bc.out⟩
         case measure=>simp [intOf]; omega
        ·have h0' : (0:Int) < (k:Int):=oM
         obtain ⟨u,Jp,IC,⟨t0,t1,t2⟩⟩:=HC.out h0
         have t0:=up t0
         have t1:=up t1
         have t2:=up t2
         subst Jp
         have Gv:Hid (dQ x.t (some u) (x.o.drop k)=(r.ok x.t && before u r && dQ x.t (some r) (x.o.drop (k+1)))):=HS.out
         obtain ⟨C,hC⟩ : ∃ C,jJ u r=C:=⟨_,rfl⟩
         have Fa:Hid (Value.int .i64 (jJ u r)=O U C):=by rw [hC]; rfl
         have HB:Hid (decide (0≤C) = !(before u r)):=by rw [← hC]; exact mX u r
         clear hC IC up
         refine aw kZ kZ ?_
         repeat (any_goals (first | go_big_quiet_step ((first | (go_at_call 116; with_reducible refine aU HX nR (br x g r.k _ (EF _))) | (go_at_call 117; with_reducible refine aB yS (bQ r.p _)) | (go_at_call 75; with_reducible refine aB zD (aM r.c 1 9999 _)) | (go_at_call 118; with_reducible refine aU Fa nR (ix u r _)))) | (refine wpQuiet_step (fun K hK=>?_); go_simp; split <;> (refine hK _ ?_; clear hK K))))
         all_goals (refine wpQuiet_nil ?_; rintro _ ⟨q1,rfl⟩)
         all_goals have xp:=hbV.trans (q1.below.mono hbV.size)
         all_goals go_wp2
         ·go_ret
          refine ⟨?_,xp⟩
          have hm:0≤C:=by assumption
          have hb0:=HB.out
          rw [jD hm] at hb0
          have Fb:before u r=false:=by
           cases yp:before u r with
           | false=>rfl
           | true=>rw [yp] at hb0; cases hb0
          rw [HG.out,HK.out,← HR.out,Gv.out,Bc.out,Fb]; rfl
         ·have hm:C < 0:=by assumption
          have hb0:=HB.out
          rw [jE oM] at hb0
          have Aq:before u r=true:=by
           cases yp:before u r with
           | true=>rfl
           | false=>rw [yp] at hb0; cases hb0
          have Fb:=jZ Aq
          clear Aq
          clear hb0
          go_roundw
          case rel=>exact ⟨k+1,some r,oM,by go_num,⟨⟨_,xp⟩,rfl⟩,by have h1:=HR.out; rw [Gv.out,Bc.out,Fb.out] at h1; exact h1,HN.out Bc.out⟩
          case measure=>simp [intOf]; omega
     ·have Bb:decide (X < 0)=true:=jD oM
      have Av:Hid (decide (0≤X)=false):=jE Au
      rcases Nat.eq_zero_or_pos k with h0 | h0
      ·have hd:decide (0 < k)=false:=jE oM
       clear h0
       refine aw kZ kZ ?_
       repeat (any_goals (first | go_big_quiet_step ((go_at_call 116; with_reducible refine aU HX nR (br x g r.k _ (EF _)))) | (refine wpQuiet_step (fun K hK=>?_); go_simp; split <;> (refine hK _ ?_; clear hK K))))
       all_goals (refine wpQuiet_nil ?_; rintro _ ⟨q1,rfl⟩)
       all_goals have xp:=hbV.trans (q1.below.mono hbV.size)
       all_goals go_wp2
       go_ret
       refine ⟨?_,xp⟩
       rw [HG.out,HK.out,← HR.out,HS.out,xF.out,HH.out,Av.out]; rfl
      ·have h0' : (0:Int) < (k:Int):=oM
       refine aw kZ kZ ?_
       repeat (any_goals (first | go_big_quiet_step ((go_at_call 116; with_reducible refine aU HX nR (br x g r.k _ (EF _)))) | (refine wpQuiet_step (fun K hK=>?_); go_simp; split <;> (refine hK _ ?_; clear hK K))))
       all_goals (refine wpQuiet_nil ?_; rintro _ ⟨q1,rfl⟩)
       all_goals have xp:=hbV.trans (q1.below.mono hbV.size)
       all_goals go_wp2
       go_ret
       refine ⟨?_,xp⟩
       rw [HG.out,HK.out,← HR.out,HS.out,xF.out,HH.out,Av.out]; rfl
    ·have Jt:fh x.t x.o=true:=by
      have h1:=HR.out
      rw [List.drop_eq_nil_of_le oM] at h1; exact h1.symm
     have BQ:=jZ (gf _ _ _ Jt)
     have Mn:=jZ Jt; clear Jt
     have hi:=kB x.t 0 AO.out
     have hj:=fN dq x.t x.o 0 BQ.out
     have Cx:Hid (lD x=decide (x.gt=cF x.t+aW dq x.o+x.sd+x.ms)):=rfl
     change 0≤cF x.t∧cF x.t≤_ at hi
     change 0≤aW dq x.o∧aW dq x.o≤_ at hj
     obtain ⟨I,hI⟩ : ∃ I,cF x.t=I:=⟨_,rfl⟩
     obtain ⟨J,hJ⟩ : ∃ J,aW dq x.o=J:=⟨_,rfl⟩
     rw [hI] at hi Cx
     rw [hJ] at hj Cx
     have HI:Hid (Value.int .i64 (cF x.t)=O U I):=by rw [hI]; rfl
     have HJ:Hid (Value.int .i64 (aW dq x.o)=O U J):=by rw [hJ]; rfl
     clear hI hJ
     obtain ⟨i1,i2⟩:=hi
     obtain ⟨j1,j2⟩:=hj
     have w1:IntKind.i64.wrap (I+J)=I+J:=IntWalk.i64_in _ oM
     have w2:IntKind.i64.wrap (I+J+x.sd)=I+J+x.sd:=IntWalk.i64_in _ oM
     have w3:IntKind.i64.wrap (I+J+x.sd+x.ms)=I+J+x.sd+x.ms:=IntWalk.i64_in _ oM
     obtain ⟨z,hz⟩ : ∃ z,decide (x.gt=I+J+x.sd+x.ms)=z:=⟨_,rfl⟩
     have yT:(x.gt == I+J+x.sd+x.ms)=z:=by rw [← hz,Bool.eq_iff_iff]; simp
     have HZ:=jZ hz; clear hz
     have Ll:∀ p:aq w.heap.size w,cu p.val p.val.heap.size g x:=fun p=>h.at p
     clear yt HR HP
     go_wp2
     refine ba _ kZ kZ ?_
     repeat (any_goals (first | go_big_quiet_step ((first | (go_at_call 119; with_reducible refine aU HI nR (jI x g _ (Ll _) tl AO.out)) | (go_at_call 120; with_reducible refine aU HJ nR (fG dq 121 #[] Tryz.call121 x g _ (fun o p=>se o p.val) (Ll _) ol BQ.out)))) | (refine wpQuiet_step (fun K hK=>?_); go_simp; split <;> (refine hK _ ?_; clear hK K))))
     all_goals (refine wpQuiet_nil ?_; rintro _ ⟨q1,rfl⟩)
     go_wp2
     go_ret
     refine ⟨?_,q1.below⟩
     rw [HG.out,HK.out,Mn.out,Cx.out,HZ.out]; rfl
theorem aZ (x:aN) (g:Nat) (w:World) (h:cu w w.heap.size g x) :
  Calls xi 67 #[.pointer (some ⟨g,0,none⟩)] w fun e w'=>e=.returned (.bool (ap x))∧Below w.heap.size w w':=by
 cases hv:(fq x && je x)
 ·exact mo x g w h hv
 ·exact lG x g w h hv
theorem iy {x:aN} {w:World} (h:aQ w w.heap.size x) (t:TypeId):cu (w.alloc (.cells #[F x.TA x.t.length x.tc,F x.OA x.o.length x.oc,O U x.gt,O U x.sd,O U x.ms] t)) (w.alloc (.cells #[F x.TA x.t.length x.tc,F x.OA x.o.length x.oc,O U x.gt,O U x.sd,O U x.ms] t)).heap.size w.heap.size x :=
 cu.of (x:=x) (ai.new w t #[F x.TA x.t.length x.tc,F x.OA x.o.length x.oc,O U x.gt,O U x.sd,O U x.ms]) (h.up (bZ w _) nR)
def vf (g:Bool) (v:Int):Int:=if g then v else 0
theorem jm (x:aN) (w:World) (h:aQ w w.heap.size x):Calls xi 136 #[x.val] w fun e w'=>e=.returned (.tuple #[O U (vf (ap x) (cF x.t)),.bool (ap x)])∧Below w.heap.size w w':=by
 have b1:=bZ w (.cells #[F x.TA x.t.length x.tc,F x.OA x.o.length x.oc,O U x.gt,O U x.sd,O U x.ms] 40)
 have hA:=iy h 40
 have cG:=fun W hW=>ei x W hW
 cases hg:ap x
 ·rw [hg] at cG
  clear hg
  go_enter Tryz.func136,Tryz.ntmps136
  go_wp2_with fail
  generalize w.alloc (.cells #[F x.TA x.t.length x.tc,F x.OA x.o.length x.oc,O U x.gt,O U x.sd,O U x.ms] 40)=W at b1 hA ⊢
  refine (cG _ hA.r).mono ?_
  rintro e w1 ⟨rfl,hb⟩
  go_wp2
  go_ret2
  exact ⟨rfl,av b1 hb⟩
 ·rw [hg] at cG
  have G:=bu.1 hg
  have cM:=fun W hW=>ki x W hW G.tl G.ol G.tall G.oall
  clear hg G
  go_enter Tryz.func136,Tryz.ntmps136
  go_wp2_with fail
  generalize w.alloc (.cells #[F x.TA x.t.length x.tc,F x.OA x.o.length x.oc,O U x.gt,O U x.sd,O U x.ms] 40)=W at b1 hA ⊢
  obtain ⟨p0,p1,p2,p3,p4⟩:=hA.s
  refine (aX (cG _ hA.r)).mono ?_
  rintro e w1 ⟨rfl,q1,rfl⟩
  go_wp2_with fail
  refine (aP nR (cM _ (hA.r.at q1))).mono ?_
  rintro e w2 ⟨rfl,q2,rfl⟩
  go_wp2
  go_ret2
  exact ⟨rfl,b1.trans (q2.below.mono b1.size)⟩
theorem lH (x:aN) (w:World) (h:aQ w w.heap.size x):Calls xi 138 #[x.val] w fun e w'=>e=.returned (.tuple #[O U (vf (ap x) (aW dq x.o)),.bool (ap x)])∧Below w.heap.size w w':=by
 have b1:=bZ w (.cells #[F x.TA x.t.length x.tc,F x.OA x.o.length x.oc,O U x.gt,O U x.sd,O U x.ms] 40)
 have hA:=iy h 40
 have cG:=fun W hW=>ei x W hW
 cases hg:ap x
 ·rw [hg] at cG
  clear hg
  go_enter Tryz.func138,Tryz.ntmps138
  go_wp2_with fail
  generalize w.alloc (.cells #[F x.TA x.t.length x.tc,F x.OA x.o.length x.oc,O U x.gt,O U x.sd,O U x.ms] 40)=W at b1 hA ⊢
  refine (cG _ hA.r).mono ?_
  rintro e w1 ⟨rfl,hb⟩
  go_wp2
  go_ret2
  exact ⟨rfl,av b1 hb⟩
 ·rw [hg] at cG
  have G:=bu.1 hg
  have cM:=fun W hW=>ki x W hW G.tl G.ol G.tall G.oall
  clear hg G
  go_enter Tryz.func138,Tryz.ntmps138
  go_wp2_with fail
  generalize w.alloc (.cells #[F x.TA x.t.length x.tc,F x.OA x.o.length x.oc,O U x.gt,O U x.sd,O U x.ms] 40)=W at b1 hA ⊢
  obtain ⟨p0,p1,p2,p3,p4⟩:=hA.s
  refine (aX (cG _ hA.r)).mono ?_
  rintro e w1 ⟨rfl,q1,rfl⟩
  go_wp2_with fail
  refine (aP nR (cM _ (hA.r.at q1))).mono ?_
  rintro e w2 ⟨rfl,q2,rfl⟩
  go_wp2
  go_ret2
  exact ⟨rfl,b1.trans (q2.below.mono b1.size)⟩
theorem mp (w:World) (vs:Array Value) (t:TypeId):∀ j u,vs.toList[j]?=some u→(w.alloc (.cells vs t)).cell? ((⟨w.heap.size,0,none⟩ : Addr).add j)=some u:=by
 intro j u hj
 have e:((⟨w.heap.size,0,none⟩ : Addr).add j)=⟨w.heap.size,j,none⟩:=by unfold Addr.add; by_cases h:j=0 <;> simp [h]
 rw [e,(ai.new w t vs).cell]; exact hj
theorem lI {w w' : World} {B:Nat} {e:TypeId} {k:Nat} {v:Value} {n:Nat} {xs:List Value} (h:w'.heap=w.heap) (ho:w.ownsRow B e k v n xs):w'.ownsRow B e k v n xs:=by
 unfold World.ownsRow at *; rw [h]; exact ho
theorem cw {P:Program} {ops:Array Oper} {rest:List Oper} {o:Oper} {a:Act} {w0 wA:World} {Q:Exit→Act→World→Prop} (zz:o.guard=none) (s x:Operand) (t:TypeId)
  (ho:o.op=.call { callee:=.builtin .append,args:=#[s,x],argTypes:=#[t,t] })
  (e:TypeId) (z:Value) (k bytes:Nat) (ht:P.underlying t=some (.slice e)) (hinfo:(P.info? e).map (fun i=>(i.zero,i.size,i.bytes))=some (some z,k,bytes)) (yM:z.cells.size=k) (xY:0 < k) (Be:bytes≤1000)
  (B:Nat) (v:Value) (n:Nat) (xs:List Value) (hs:a.eval s=v) (xH:Hid (w0.ownsRow B e k v n xs))
  (vs:Array Value) (c g:Nat) (hx:a.eval x=F (some ⟨g,0,none⟩) 1 c) (hg:w0.heap.size=g) (Eb:vs.size=k) (h1:vs.all (·.oneCell')=true) (hn:n < 1000000000) (hbase:B≤w0.heap.size)
  (hheap:wA.heap=(w0.alloc (.cells vs e)).heap) (Gd:wA.os=w0.os) (htape:wA.tape=w0.tape) (Fc:wA.output=w0.output)
  (h:∀ v' w',Hid (w'.ownsRow B e k v' (n+1) (xs++vs.toList))→w0.grownBy w' v.ownBlock→Below B w0 w'→wpList P ops Q rest (a.put o.dst v') w'):wpList P ops Q (o :: rest) a wA:=by
 subst hg
 obtain ⟨i,hi,hz,hs',hb⟩:=info_parts hinfo
 have hown':=xH.out
 have hsize:wA.heap.size=w0.heap.size+1:=by rw [hheap]; exact Array.size_push _
 have hblock:∀ j,j < w0.heap.size→wA.heap[j]?=w0.heap[j]?:=fun j hj=>by rw [hheap]; exact Below.heap_alloc w0 _ j hj
 have h4:w0.grownBy wA v.ownBlock:=⟨Gd,htape,Fc,oM,fun j hj _=>hblock j hj⟩
 refine wpList_append_own (w:=wA) zz s x t ho B e i z k bytes ht hi hz hs' hb yM xY v n xs hs (lI hheap (hown'.alloc _)) ⟨w0.heap.size,0,none⟩ 1 c vs.toList hx (by simp [Eb]) ?_ (fun u hu=>(Array.all_eq_true_iff_forall_mem.1 h1) u (by simpa using hu)) (by unfold maxLen; omega) ?_ oM fun v' w' h2 h3 _=>h v' w' h2 ?_ ?_
 ·intro j u hj
  have:=mp w0 vs e j u hj
  rw [← this]; exact World.cell?_of_block (by rw [hheap])
 ·have:=Nat.mul_le_mul (show n+1≤1000000000 by omega) Be
  omega
 ·exact ⟨h3.os.trans h4.os,h3.tape.trans h4.tape,h3.output.trans h4.output,jT h4.size h3.size,fun j hj xw=>(h3.block j (jL hj h4.size) xw).trans (h4.block j hj xw)⟩
 ·exact ((Below.refl B w0).grown h4 hbase (fun j hj=>(hown'.lt j hj).1)).grown h3 oM (fun j hj=>(hown'.lt j hj).1)
theorem az {w:World} {B:Nat} {e:TypeId} {k:Nat} {v:Value} {n:Nat} {xs:List Value} (h:w.ownsRow B e k v n xs):∃ A c,v=F A n c:=by
 obtain ⟨_,⟨rfl,rfl⟩ | ⟨g,cap,_,rfl,_⟩⟩:=h
 ·exact ⟨_,_,rfl⟩
 ·exact ⟨_,_,rfl⟩
theorem iV {P:Program} (w:World) (base:Nat) (t ty e:TypeId) (i:TypeInfo) (size:Nat) (ht:P.underlying t=some (.slice e)) (hi:P.info? e=some i)
  (v:Value) (n:Nat) (xs:List Value) (xH:w.ownsRow base e size v n xs) (c:Nat):(Builtin.append_ #[t,t] ty #[v,F none 0 c]).run P w=.ok v w:=by
 obtain ⟨_,⟨rfl,rfl⟩ | ⟨g,cap,cur,rfl,_,_,xA,_⟩⟩:=xH
 ·simp [Builtin.append_,run_underlying ht,sizeOf,typeInfo,hi,Builtin.lenOf,Builtin.firstCells]
 ·simp [Builtin.append_,run_underlying ht,sizeOf,typeInfo,hi,Builtin.lenOf,Builtin.firstCells,xA,storeCells]
theorem cP (b o j:Nat):((⟨b,o,none⟩ : Addr).add j)=⟨b,o+j,none⟩:=by unfold Addr.add; by_cases h:j=0 <;> simp [h]
theorem vg {P:Program} {o:Oper} {a:Act} {w:World} {K:Act→World→Prop} {Q:Exit→Act→World→Prop} (s x:Operand) (t:TypeId)
  (ho:o.op=.call { callee:=.builtin .append,args:=#[s,x],argTypes:=#[t,t] })
  (e:TypeId) (z:Value) (k bytes:Nat) (ht:P.underlying t=some (.slice e)) (hinfo:(P.info? e).map (fun i=>(i.zero,i.size,i.bytes))=some (some z,k,bytes)) (yM:z.cells.size=k) (xY:0 < k) (Be:bytes≤1000)
  (B:Nat) (v:Value) (n:Nat) (xs:List Value) (hs:a.eval s=v) (xH:Hid (w.ownsRow B e k v n xs))
  (S:Nat) (A:Option Addr) (m c:Nat) (cs:List Value) (hx:a.eval x=F A m c) (hr:Hid (bi w S k A m cs)) (h1:∀ u ∈ cs,u.oneCell'=true)
  (hn:n+m≤1000000000) (hbase:B≤w.heap.size)
  (h:∀ v' w',Hid (w'.ownsRow B e k v' (n+m) (xs++cs))→w.grownBy w' v.ownBlock→Below B w w'→(v'.ownBlock=v.ownBlock ∨ v'.ownBlock=some w.heap.size)→K (a.put o.dst v') w'):o.wp P a w K Q:=by
 obtain ⟨i,hi,hz,hs',hb⟩:=info_parts hinfo
 have hbytes:(n+m) * bytes≤140737488355328:=by have:=Nat.mul_le_mul hn Be; omega
 have fin:∀ v' w',(Builtin.append_ #[t,t] o.type #[v,F A m c]).run P w=.ok v' w'→w'.ownsRow B e k v' (n+m) (xs++cs)→w.grownBy w' v.ownBlock→(v'.ownBlock=v.ownBlock ∨ v'.ownBlock=some w.heap.size)→o.wp P a w K Q:=by
  intro v' w' xZ h2 h3 h4
  unfold Oper.wp execOp
  simp only [ho,resolve,invoke,builtin,Sem.run_bind,Sem.run_pure,Result.andThen_ok,List.map_toArray,List.map_cons,List.map_nil,hs,hx,xZ]
  exact h v' w' h2 h3 ((Below.refl B w).grown h3 hbase (fun j hj=>(xH.out.lt j hj).1)) h4
 rcases Nat.eq_zero_or_pos m with h0 | h0
 ·subst h0
  have hc0:cs = []:=List.eq_nil_of_length_eq_zero (by simpa using hr.out.len)
  subst hc0
  rcases A with _ | ad
  ·exact fin v w (iV w B t o.type e i k ht hi v n xs xH.out c) (by simpa using xH.out) (World.grownBy.refl w _) (.inl rfl)
  ·obtain ⟨v',w',xZ,h2,h3,_,h5⟩:=run_append_own_at (P:=P) w B t o.type e i z k bytes ht hi hz hs' hb yM xY v n xs xH.out ad 0 c [] sP sP sP (by unfold maxLen; omega) hbytes hbase
   exact fin v' w' xZ h2 h3 h5
 ·obtain ⟨b,off,rfl,xu,hcell⟩:=hr.out.at_ h0
  obtain ⟨v',w',xZ,h2,h3,_,h5⟩:=run_append_own_at (P:=P) w B t o.type e i z k bytes ht hi hz hs' hb yM xY v n xs xH.out ⟨b,off,none⟩ m c cs hr.out.len (fun j u hu=>by rw [cP]; exact hcell j u hu) h1 (by unfold maxLen; omega) hbytes hbase
  exact fin v' w' xZ h2 h3 h5
theorem iz {P:Program} {ops:Array Oper} {rest:List Oper} {o:Oper} {a:Act} {w:World} {Q:Exit→Act→World→Prop} (zz:o.guard=none) (s x:Operand) (t:TypeId)
  (ho:o.op=.call { callee:=.builtin .append,args:=#[s,x],argTypes:=#[t,t] })
  (e:TypeId) (z:Value) (k bytes:Nat) (ht:P.underlying t=some (.slice e)) (hinfo:(P.info? e).map (fun i=>(i.zero,i.size,i.bytes))=some (some z,k,bytes)) (yM:z.cells.size=k) (xY:0 < k) (Be:bytes≤1000)
  (B:Nat) (v:Value) (n:Nat) (xs:List Value) (hs:a.eval s=v) (xH:Hid (w.ownsRow B e k v n xs))
  (S:Nat) (A:Option Addr) (m c:Nat) (cs:List Value) (hx:a.eval x=F A m c) (hr:Hid (bi w S k A m cs)) (h1:∀ u ∈ cs,u.oneCell'=true)
  (hn:n+m≤1000000000) (hbase:B≤w.heap.size)
  (h:∀ v' w',Hid (w'.ownsRow B e k v' (n+m) (xs++cs))→w.grownBy w' v.ownBlock→Below B w w'→(v'.ownBlock=v.ownBlock ∨ v'.ownBlock=some w.heap.size)→wpList P ops Q rest (a.put o.dst v') w'):wpList P ops Q (o :: rest) a w :=
 wpList_plain zz fun _ hK=>vg s x t ho e z k bytes ht hinfo yM xY Be B v n xs hs xH S A m c cs hx hr h1 hn hbase fun v' w' h2 h3 h4 h5=>hK _ _ (h v' w' h2 h3 h4 h5)
theorem dI {w:World} {B g:Nat} {e:TypeId} {k:Nat} (h:ai w g e []) (hB:B≤g):w.ownsRow B e k (F (some ⟨g,0,none⟩) 0 0) 0 []:=h.own hB sP (by unfold maxLen; omega)
theorem ai.setCells {g:Nat} {t:TypeId} : ∀ (vs:List Value) (o:Nat) (w:World) (cs:List Value),ai w g t cs→o+vs.length≤cs.length→ai (w.setCells g o vs) g t (aY cs o vs)
 | [],o,w,cs,h,_=>by simpa [World.setCells,aY] using h
 | v :: r,o,w,cs,h,hl=>by
  rw [World.setCells]
  have h2:=ai.setCells r (o+1) (w.setCell ⟨g,o,none⟩ v) (cs.set o v) (h.set o v) (by simp at hl ⊢; omega)
  have e:aY (cs.set o v) (o+1) r=aY cs o (v :: r):=by
   unfold aY
   have xu:o < cs.length:=by simp at hl; omega
   have e1:(cs.set o v).take (o+1)=cs.take o++[v]:=by
    rw [List.take_set,List.take_succ_eq_append_getElem xu,List.set_append_right _ _ (by rw [List.length_take]; omega)]
    rw [List.length_take,Nat.min_eq_left oM,Nat.sub_self]; rfl
   have e2:(cs.set o v).drop (o+1+r.length)=cs.drop (o+(v :: r).length):=by
    rw [List.drop_set_of_lt oM]; congr 1; simp; omega
   rw [e1,e2]; simp
  rw [e] at h2; exact h2
theorem gh {a:World} {g:Nat} : ∀ (vs:List Value) (o:Nat) (w:World),a.grownBy w (some g)→a.grownBy (w.setCells g o vs) (some g)
 | [],_,_,h=>h
 | v :: r,o,w,h=>by
  rw [World.setCells]
  have hs:a.grownBy (w.setCell ⟨g,o,none⟩ v) (some g) :=
   ⟨h.os,h.tape,h.output,by have:=h.size; simpa [World.setCell] using this,fun k hk xw=>(Below.heap_setCell w ⟨g,o,none⟩ v k (fun e=>xw (by rw [e]))).trans (h.block k hk xw)⟩
  exact gh r (o+1) _ hs
theorem ai.drew {w:World} {g:Nat} {t:TypeId} {cs:List Value} (h:ai w g t cs):ai w.drew g t cs:=h
theorem sf {P:Program} (w:World) (dT sT ty elem:TypeId) (k b o dLen dCap:Nat) (a:Addr) (sLen sCap:Nat) (cs:List Value)
  (hu:P.underlying dT=some (.slice elem)) (hs:(P.info? elem).map (·.size)=some k) (hn:cs.length=Nat.min sLen dLen * k)
  (Ax:∀ j v,cs[j]?=some v→w.cell? (a.add j)=some v) (hc:∀ j,j < cs.length→(w.cell? ⟨b,o+j,none⟩).isSome=true) (hf:∀ j,j < cs.length→w.frozen? ⟨b,o+j,none⟩=false) (h1:∀ v ∈ cs,v.oneCell'=true) :
  (Builtin.copy_ #[dT,sT] ty #[F (some ⟨b,o,none⟩) dLen dCap,F (some a) sLen sCap]).run P w=.ok (goInt (Nat.min sLen dLen)) (w.setCells b o cs):=by
 have xM:=run_storeCells_cells (P:=P) b o cs 0 w (by simpa using hc) (by simpa using hf) h1
 cases hq:P.info? elem with
 | none=>simp [hq] at hs
 | some i =>
  have hi:i.size=k:=by simpa [hq] using hs
  have Mo:=run_firstCells_some (P:=P) w k (Nat.min sLen dLen) a sLen sCap cs hn Ax
  simp [Builtin.copy_,run_underlying hu,Builtin.lenOf,sizeOf,typeInfo,hq,hi,Mo,xM]
theorem pZ {P:Program} (w:World) (dT sT ty elem e:TypeId) (k b o dLen dCap:Nat) (a:Addr) (sLen sCap m:Nat) (cs cur:List Value)
  (hu:P.underlying dT=some (.slice elem)) (hs:(P.info? elem).map (·.size)=some k) (hm:Nat.min sLen dLen=m) (hn:cs.length=m * k)
  (hL:ai w b e cur) (Bl:o+cs.length≤cur.length) (Ax:∀ j v,cs[j]?=some v→w.cell? (a.add j)=some v) (h1:∀ v ∈ cs,v.oneCell'=true) :
  (Builtin.copy_ #[dT,sT] ty #[F (some ⟨b,o,none⟩) dLen dCap,F (some a) sLen sCap]).run P w=.ok (goInt m) (w.setCells b o cs):=by
 subst hm
 exact sf w dT sT ty elem k b o dLen dCap a sLen sCap cs hu hs hn Ax (fun j hj=>by rw [hL.cell,List.getElem?_eq_getElem oM]; rfl) (fun j hj=>hL.frozen _) h1
theorem qK {P:Program} (w:World) (t e ty:TypeId) (z:Value) (zs:List Value) (ht:P.underlying t=some (.slice e)) (hv:∀ w,(zeroValue e).run P w=.ok z w) (b o n c:Nat) (hn:0 < n) (hz:(Builtin.zeroCells z.cells n).toList=zs) (h1:∀ v ∈ zs,v.oneCell'=true)
  (hc:∀ j,j < zs.length→(w.cell? ⟨b,o+j,none⟩).isSome=true) (hf:∀ j,j < zs.length→w.frozen? ⟨b,o+j,none⟩=false) :
  (Builtin.clear_ #[t] ty #[F (some ⟨b,o,none⟩) n c]).run P w=.ok (.tuple #[]) (w.setCells b o zs):=by
 have xM:=run_storeCells_cells (P:=P) b o zs 0 w (by simpa using hc) (by simpa using hf) h1
 simp only [Nat.add_zero] at xM
 obtain ⟨m,rfl⟩ : ∃ m,n=m+1:=⟨n - 1,oM⟩
 simp [Builtin.clear_,run_underlying ht,hv,hz,xM]
theorem kW (cur xs x:List Value) (i k n:Nat) (hx:x.length=k) (Ay:xs.length=n * k) (hi:i≤n) (yn:cur.take (n * k)=xs) (hroom:(n+1) * k≤cur.length) :
  (aY (aY cur (i * k+k) (xs.drop (i * k))) (i * k) x).take ((n+1) * k)=xs.take (i * k)++x++xs.drop (i * k):=by
 have zE:i * k≤n * k:=Nat.mul_le_mul_right k hi
 have zJ:(n+1) * k=n * k+k:=Nat.succ_mul n k
 rw [zJ] at hroom ⊢
 have Ee:n * k≤cur.length:=oM
 have et:(cur.take (i * k))=xs.take (i * k):=by rw [← yn,List.take_take,Nat.min_eq_left zE]
 have hd:(xs.drop (i * k)).length=n * k - i * k:=by rw [List.length_drop,Ay]
 have e1:aY cur (i * k+k) (xs.drop (i * k))=cur.take (i * k+k)++xs.drop (i * k)++cur.drop (n * k+k):=by
  unfold aY; rw [hd]; congr 2; omega
 have l1:(cur.take (i * k+k)).length=i * k+k:=by rw [List.length_take]; omega
 rw [e1]
 unfold aY
 have e2:(cur.take (i * k+k)++xs.drop (i * k)++cur.drop (n * k+k)).take (i * k)=xs.take (i * k):=by
  rw [List.append_assoc,List.take_append_of_le_length oM,List.take_take,Nat.min_eq_left oM,et]
 have e3:(cur.take (i * k+k)++xs.drop (i * k)++cur.drop (n * k+k)).drop (i * k+x.length)=xs.drop (i * k)++cur.drop (n * k+k):=by
  rw [hx,List.append_assoc,List.drop_append_of_le_length oM,List.drop_of_length_le oM,List.nil_append]
 rw [e2,e3,← List.append_assoc]
 have l2:(xs.take (i * k)++x++xs.drop (i * k)).length=n * k+k:=by
  rw [List.length_append,List.length_append,List.length_take,hd,Ay,hx]; omega
 rw [List.take_append_of_le_length oM,List.take_of_length_le oM]
theorem bY (cs vs:List Value) (o:Nat) (h:o+vs.length≤cs.length):(aY cs o vs).length=cs.length:=by
 unfold aY; simp; omega
theorem o7 (cur xs zs:List Value) (i k n:Nat) (hz:zs.length=k) (Ay:xs.length=n * k) (hi:i < n) (yn:cur.take (n * k)=xs) (hl:n * k≤cur.length) :
  (aY (aY cur (i * k) (xs.drop (i * k+k))) ((n - 1) * k) zs).take ((n - 1) * k)=xs.take (i * k)++xs.drop (i * k+k):=by
 have zE:i * k+k≤n * k:=by rw [← Nat.succ_mul]; exact Nat.mul_le_mul_right k hi
 have zJ:(n - 1) * k+k=n * k:=by rw [← Nat.succ_mul]; congr 1; omega
 have et:(cur.take (i * k))=xs.take (i * k):=by rw [← yn,List.take_take,Nat.min_eq_left oM]
 have hd:(xs.drop (i * k+k)).length=n * k - (i * k+k):=by rw [List.length_drop,Ay]
 have l1:(xs.take (i * k)++xs.drop (i * k+k)).length=(n - 1) * k:=by rw [List.length_append,List.length_take,hd,Ay]; omega
 have e1:(aY cur (i * k) (xs.drop (i * k+k))).take ((n - 1) * k)=xs.take (i * k)++xs.drop (i * k+k):=by
  unfold aY; rw [et,List.take_append_of_le_length oM,List.take_of_length_le oM]
 have l2:(aY cur (i * k) (xs.drop (i * k+k))).length=cur.length:=bY _ _ _ (by rw [hd]; omega)
 have e2:(aY (aY cur (i * k) (xs.drop (i * k+k))) ((n - 1) * k) zs)=(aY cur (i * k) (xs.drop (i * k+k))).take ((n - 1) * k)++(zs++(aY cur (i * k) (xs.drop (i * k+k))).drop ((n - 1) * k+zs.length)):=by
  rw [aY,List.append_assoc]
 rw [e2,List.take_append_of_le_length (by rw [List.length_take]; omega),List.take_take,Nat.min_self,e1]
theorem mY (xs x Z:List Value) (i k n:Nat) (hx:x.length=k) (Ay:xs.length=n * k) (hi:i≤n) (hZ:(n+1) * k≤i * k+Z.length) :
  (aY (aY (xs.take (i * k)++Z) (i * k) x) ((i+1) * k) (xs.drop (i * k))).take ((n+1) * k)=xs.take (i * k)++x++xs.drop (i * k):=by
 have zE:i * k≤n * k:=Nat.mul_le_mul_right k hi
 have zJ:(n+1) * k=n * k+k:=Nat.succ_mul n k
 have ID:(i+1) * k=i * k+k:=Nat.succ_mul i k
 rw [zJ] at hZ ⊢
 rw [ID]
 have lt:(xs.take (i * k)).length=i * k:=by rw [List.length_take]; omega
 have ld:(xs.drop (i * k)).length=n * k - i * k:=by rw [List.length_drop,Ay]
 have e1:aY (xs.take (i * k)++Z) (i * k) x=xs.take (i * k)++x++Z.drop k:=by
  unfold aY
  rw [List.take_append_of_le_length oM,List.take_of_length_le oM,List.drop_append,List.drop_eq_nil_of_le oM,lt,hx,List.nil_append]
  congr 2; omega
 have l1:(xs.take (i * k)++x).length=i * k+k:=by rw [List.length_append,lt,hx]
 rw [e1]
 unfold aY
 have e2:(xs.take (i * k)++x++Z.drop k).take (i * k+k)=xs.take (i * k)++x:=by
  rw [List.take_append_of_le_length oM,List.take_of_length_le oM]
 rw [e2]
 have l2:(xs.take (i * k)++x++xs.drop (i * k)).length=n * k+k:=by rw [List.length_append,l1,ld]; omega
 rw [List.take_append_of_le_length oM,List.take_of_length_le oM]
theorem ai.shape {w:World} {g:Nat} {t:TypeId} {cs:List Value} (h:ai w g t cs):w.shape? g=some (t,cs.length):=by
 unfold ai at h; simp [World.shape?,h]
theorem jn {P : Program} (w : World) (f : FuncId) (fn : Func) (tS tR e : TypeId) (hf : P.funcs[f]? = some fn) (hname : (fn.name == "runtime.NumGoroutine") = false) (hb : fn.body.isNone = true) (Mp : Extern.findNext fn = none) (he : Extern.find fn = some (Extern.SlicesOverlaps.overlaps #[tS, tS] #[tR]))
  (ht:P.underlying tS=some (.slice e)) (size:Nat) (hz:∀ w,(Go.sizeOf e).run P w=.ok size w) (ga gb:Nat) (oa ob la ca lb cb:Nat) (xw:ga ≠ gb) (ta tb:TypeId) (xa xb:List Value) (Ju:ai w ga ta xa) (Mq:ai w gb tb xb) (Mr:xb.length ≠ 0) :
  (callFunc f #[F (some ⟨ga,oa,none⟩) la ca,F (some ⟨gb,ob,none⟩) lb cb]).run P w=.ok (.value (.bool false)) w:=by
 rw [run_callFunc_extern hf hname hb Mp he,Lib.run_overlaps_apart w tS tR e ht size hz ⟨ga,oa,none⟩ ⟨gb,ob,none⟩ la ca lb cb xw ta tb _ _ Ju.shape Mq.shape Mr (Ju.frozen _) (Ju.frozen _)]
 rfl
theorem o8 {P:Program} (w:World) {o:Oper} {a:Act} {K:Act→World→Prop} {Q:Exit→Act→World→Prop} (d s:Operand) (t t' : TypeId)
  (ho:o.op=.call { callee:=.builtin .copy,args:=#[d,s],argTypes:=#[t,t'] }) (v u:Value) (hd:a.eval d=v) (hs:a.eval s=u) {v' : Value} {w' : World}
  (hr:(Builtin.copy_ #[t,t'] o.type #[v,u]).run P w=.ok v' w') (h:K (a.put o.dst v') w'):o.wp P a w K Q:=by
 unfold Oper.wp execOp
 simp only [ho,resolve,invoke,builtin,Sem.run_bind,Sem.run_pure,Result.andThen_ok,List.map_toArray,List.map_cons,List.map_nil,hd,hs,hr]
 exact h
theorem mZ {P:Program} {w:World} {o:Oper} {a:Act} {K:Act→World→Prop} {Q:Exit→Act→World→Prop} (d s:Operand) (t:TypeId)
  (ho:o.op=.call { callee:=.builtin .copy,args:=#[d,s],argTypes:=#[t,t] }) (e elem:TypeId) (k b ofs dLen dCap:Nat) (A:Addr) (sLen sCap m:Nat) (cs cur:List Value)
  (hd:a.eval d=F (some ⟨b,ofs,none⟩) dLen dCap) (hs:a.eval s=F (some A) sLen sCap)
  (hu:P.underlying t=some (.slice elem)) (hi:(P.info? elem).map (·.size)=some k) (hm:Nat.min sLen dLen=m) (hn:cs.length=m * k)
  (hL:Hid (ai w b e cur)) (Bl:Hid (ofs+cs.length≤cur.length)) (Ax:Hid (∀ j v,cs[j]?=some v→w.cell? (A.add j)=some v)) (h1:Hid (∀ v ∈ cs,v.oneCell'=true))
  (h:∀ w',Hid (ai w' b e (aY cur ofs cs))→w.grownBy w' (some b)→K (a.put o.dst (goInt m)) w'):o.wp P a w K Q :=
 o8 w d s t t ho _ _ hd hs (pZ w t t o.type elem e k b ofs dLen dCap A sLen sCap m cs cur hu hi hm hn hL.out Bl.out Ax.out h1.out) (h _ (ai.setCells cs ofs w cur hL.out Bl.out) (gh cs ofs w (World.grownBy.refl w _)))
theorem dh {P:Program} {w:World} {ops:Array Oper} {rest:List Oper} {o:Oper} {a:Act} {Q:Exit→Act→World→Prop} (zz:o.guard=none) (d s:Operand) (t:TypeId)
  (ho:o.op=.call { callee:=.builtin .copy,args:=#[d,s],argTypes:=#[t,t] }) (e elem:TypeId) (k b ofs dLen dCap:Nat) (A:Addr) (sLen sCap m:Nat) (cs cur:List Value)
  (hd:a.eval d=F (some ⟨b,ofs,none⟩) dLen dCap) (hs:a.eval s=F (some A) sLen sCap)
  (hu:P.underlying t=some (.slice elem)) (hi:(P.info? elem).map (·.size)=some k) (hm:Nat.min sLen dLen=m) (hn:cs.length=m * k)
  (hL:Hid (ai w b e cur)) (Bl:Hid (ofs+cs.length≤cur.length)) (Ax:Hid (∀ j v,cs[j]?=some v→w.cell? (A.add j)=some v)) (h1:Hid (∀ v ∈ cs,v.oneCell'=true))
  (h:∀ w',Hid (ai w' b e (aY cur ofs cs))→w.grownBy w' (some b)→wpList P ops Q rest (a.put o.dst (goInt m)) w'):wpList P ops Q (o :: rest) a w :=
 wpList_plain zz fun _ hK=>mZ d s t ho e elem k b ofs dLen dCap A sLen sCap m cs cur hd hs hu hi hm hn hL Bl Ax h1 fun w' h2 h3=>hK _ _ (h w' h2 h3)
theorem mq {P:Program} {w:World} {ops:Array Oper} {rest:List Oper} {o:Oper} {a:Act} {Q:Exit→Act→World→Prop} (zz:o.guard=none) (d:Operand) (t:TypeId)
  (ho:o.op=.call { callee:=.builtin .clear,args:=#[d],argTypes:=#[t] }) (e el:TypeId) (z:Value) (zs:List Value) (b ofs n c:Nat) (cur:List Value) (hd:a.eval d=F (some ⟨b,ofs,none⟩) n c)
  (ht:P.underlying t=some (.slice e)) (hv:∀ w,(zeroValue e).run P w=.ok z w) (hn:0 < n) (hz:(Builtin.zeroCells z.cells n).toList=zs) (h1:∀ v ∈ zs,v.oneCell'=true)
  (hL:Hid (ai w b el cur)) (Bl:Hid (ofs+zs.length≤cur.length))
  (h:∀ w',Hid (ai w' b el (aY cur ofs zs))→w.grownBy w' (some b)→wpList P ops Q rest (a.put o.dst (.tuple #[])) w'):wpList P ops Q (o :: rest) a w:=by
 have hr:=qK (P:=P) w t e o.type z zs ht hv b ofs n c hn hz h1 (fun j hj=>by rw [hL.out.cell,List.getElem?_eq_getElem (by have:=Bl.out; omega)]; rfl) (fun j hj=>hL.out.frozen _)
 refine wpList_plain zz fun K hK=>?_
 unfold Oper.wp execOp
 simp only [ho,resolve,invoke,builtin,Sem.run_bind,Sem.run_pure,Result.andThen_ok,List.map_toArray,List.map_cons,List.map_nil,hd,hr]
 exact hK _ _ (h _ (ai.setCells zs ofs w cur hL.out Bl.out) (gh zs ofs w (World.grownBy.refl w _)))
theorem ac {w w' : World} {B:Nat} {e:TypeId} {k:Nat} {v:Value} {n:Nat} {xs:List Value} (h:w.ownsRow B e k v n xs) (hb:Below w.heap.size w w'):w'.ownsRow B e k v n xs:=by
 obtain ⟨hl,h0 | ⟨g,cap,cur,hv,hg,hh,h1,h2,h3,h4⟩⟩:=h
 ·exact ⟨hl,.inl h0⟩
 ·have xu:g < w.heap.size:=by
   rcases Nat.lt_or_ge g w.heap.size with xu | xR
   ·exact xu
   ·rw [Array.getElem?_eq_none xR] at hh; cases hh
  exact ⟨hl,.inr ⟨g,cap,cur,hv,hg,(hb.block g xu).trans hh,h1,h2,h3,h4⟩⟩
theorem bn {w:World} {B:Nat} {e t:TypeId} {k:Nat} {v:Value} {n:Nat} {xs cs:List Value} (h:w.ownsRow B e k v n xs) {g:Nat} (hg:ai w g t cs) (xw:e ≠ t):some g ≠ v.ownBlock:=by
 obtain ⟨_,⟨rfl,_⟩ | ⟨g',cap,cur,rfl,_,hh,_⟩⟩:=h
 ·simp [Value.ownBlock]
 ·intro he
  simp only [Value.ownBlock,Option.some.injEq] at he
  subst he
  unfold ai at hg
  rw [hg] at hh
  injection hh with hh; injection hh with _ h2; exact xw h2.symm
theorem ag {w:World} {B B' : Nat} {e:TypeId} {k:Nat} {v:Value} {n:Nat} {xs:List Value} (h:w.ownsRow B e k v n xs) (hB:B'≤B):w.ownsRow B' e k v n xs:=by
 obtain ⟨hl,h0 | ⟨g,cap,cur,hv,hg,hh⟩⟩:=h
 ·exact ⟨hl,.inl h0⟩
 ·exact ⟨hl,.inr ⟨g,cap,cur,hv,jT hB hg,hh⟩⟩
theorem fi {w w' : World} {B B' : Nat} {e e' : TypeId} {k k' : Nat} {v v' : Value} {n n' : Nat} {xs xs' : List Value} (h:w.ownsRow B e k v n xs) (h' : w.ownsRow B' e' k' v' n' xs') (xw:e' ≠ e) (hg:w.grownBy w' v'.ownBlock):w'.ownsRow B e k v n xs:=by
 refine h.kept hg ?_
 obtain ⟨_,⟨h1,_⟩ | ⟨g,cap,cur,h1,_,hh,_⟩⟩:=h
 ·left; rw [h1]; rfl
 ·right
  rw [h1]
  exact bn h' (g:=g) (t:=e) (cs:=cur.toList) (ai.of hh) xw
def lenOf:Value→Nat
 | F _ n _=>n
 | _=>0
theorem am {w:World} {B:Nat} {e t:TypeId} {k:Nat} {v:Value} {n:Nat} {xs cs:List Value} (h:w.ownsRow B e k v n xs) {g:Nat} (hg:ai w g t cs) (xw:e ≠ t) (i:Nat) (u:Value):(w.setCell ⟨g,i,none⟩ u).ownsRow B e k v n xs:=by
 have hf:=bn h hg xw
 obtain ⟨hl,h0 | ⟨g',cap,cur,hv,hg',hh,h1⟩⟩:=h
 ·exact ⟨hl,.inl h0⟩
 ·refine ⟨hl,.inr ⟨g',cap,cur,hv,hg',(Below.heap_setCell w _ u g' ?_).trans hh,h1⟩⟩
  intro e'
  subst hv
  exact hf (by simp only [Value.ownBlock]; rw [e'])
theorem cg {w:World} {B:Nat} {e:TypeId} {k:Nat} {v:Value} {n:Nat} {xs:List Value} (h:w.ownsRow B e k v n xs) (hn:0 < n):∃ g cap rest,v=F (some ⟨g,0,none⟩) n cap∧B≤g∧ai w g e (xs++rest)∧n≤cap:=by
 obtain ⟨hl,h0 | ⟨g,cap,cur,hv,hg,hh,h1,h2,h3,h4⟩⟩:=h
 ·omega
 ·refine ⟨g,cap,cur.toList.drop (n * k),hv,hg, ?_,h1⟩
  have:xs++cur.toList.drop (n * k)=cur.toList:=by rw [← h4]; exact List.take_append_drop _ _
  rw [this]; exact ai.of hh
theorem m3 {w:World} {B g cap:Nat} {e:TypeId} {k n:Nat} {xs:List Value} (h:w.ownsRow B e k (F (some ⟨g,0,none⟩) n cap) n xs) (j:Nat) (u:Value) (hj:j < n * k):(w.setCell ⟨g,j,none⟩ u).ownsRow B e k (F (some ⟨g,0,none⟩) n cap) n (xs.set j u):=by
 obtain ⟨hl,h0 | ⟨g',cap',cur,hv,hg,hh,h1,h2,h3,h4⟩⟩:=h
 ·cases h0.1
 ·injection hv with e1 e2 e3
  injection e1 with e1; injection e1 with e1; subst e1; subst e3
  have hL:=(ai.of hh).set j u
  exact ⟨by rw [List.length_set]; exact hl,.inr ⟨g,cap,(cur.toList.set j u).toArray,rfl,hg,hL,h1,h2,by simp [h3],by show List.take _ (cur.toList.set j u)=_; rw [List.take_set,h4]⟩⟩
theorem an {w:World} {B:Nat} {e:TypeId} {k:Nat} {A:Option Addr} {n c:Nat} {xs:List Value} (h:w.ownsRow B e k (F A n c) n xs):bi w w.heap.size k A n xs:=by
 obtain ⟨hl,h0 | ⟨g,cap,cur,hv,hg,hh,h1,h2,h3,h4⟩⟩:=h
 ·exact ⟨hl,oM,fun hn=>by omega⟩
 ·injection hv with e1 _ _
  refine ⟨hl,by unfold maxLen at h2; omega,fun hn=>⟨g,0,e1,(ai.of hh).lt,fun j u hu=>?_⟩⟩
  rw [Nat.zero_add,(ai.of hh).cell]
  rw [← h4,List.getElem?_take] at hu
  split at hu
  ·exact hu
  ·cases hu
theorem ak {w w' : World} {B:Nat} {e t:TypeId} {k:Nat} {v:Value} {n:Nat} {xs cs:List Value} (h:w.ownsRow B e k v n xs) {g:Nat} (hL:ai w g t cs) (xw:e ≠ t) (hg:w.grownBy w' (some g)):w'.ownsRow B e k v n xs :=
 h.kept hg (.inr fun e'=>bn h hL xw e'.symm)
section
variable {P:Program} {ops:Array Oper} {tm:Array Value} {o:Oper} {a:Act} {w:World} {K:Act→World→Prop} {Q:Exit→Act→World→Prop} {E:Prop}
theorem nG {t e:TypeId} (ht:P.underlying t=some (.slice e)):P.underlying t=some (.slice (P.elem t))∧P.elem t=e:=by
 have:P.elem t=e:=by simp [Program.elem,ht]
 exact ⟨by rw [this]; exact ht,this⟩
theorem bi.take {B k n:Nat} {A:Option Addr} {cs:List Value} (h:bi w B k A n cs) (i:Nat) (hi:i≤n):bi w B k A i (cs.take (i * k)):=by
 have hm:i * k≤n * k:=Nat.mul_le_mul_right k hi
 refine ⟨by rw [List.length_take,h.len]; omega,by have:=h.big; omega,fun h0=>?_⟩
 obtain ⟨b,off,e,hb,hc⟩:=h.at_ oM
 exact ⟨b,off,e,hb,fun j u hu=>hc j u (by rw [List.getElem?_take] at hu; split at hu; exact hu; cases hu)⟩
theorem bi.drop {B k n:Nat} {A A' : Option Addr} {cs:List Value} (h:bi w B k A n cs) (i:Nat) (hi:i≤n) (hA:i < n→A'=A.map fun p=>p.add (i * k)):bi w B k A' (n - i) (cs.drop (i * k)):=by
 refine ⟨by rw [List.length_drop,h.len,Nat.sub_mul],by have:=h.big; omega,fun h0=>?_⟩
 obtain ⟨b,off,e,hb,hc⟩:=h.at_ oM
 refine ⟨b,off+i * k, ?_,hb,fun j u hu=>?_⟩
 ·rw [hA oM,e]; simp only [Option.map_some,cP]
 ·rw [List.getElem?_drop] at hu
  have:=hc _ u hu
  rwa [Nat.add_assoc]
theorem px {e:TypeId} {s:Nat} (hs:(P.info? e).map (·.size)=some s):∃ inf,P.info? e=some inf∧inf.size=s:=by
 cases hq:P.info? e with
 | none=>simp [hq] at hs
 | some inf=>exact ⟨inf,rfl,by simpa [hq] using hs⟩
theorem vk (A:Option Addr):A.map (fun p=>p.add 0)=A:=by cases A <;> simp [Addr.add]
theorem qS {t e:TypeId} (ht:P.underlying t=some (.slice e)) {s:Nat} (hs:(P.info? e).map (·.size)=some s) (A:Option Addr) (n c i:Nat) (hi:i≤n) (hc:n≤c) (w:World) :
  (Instr.slice t (.slice A n c) none (some (.int .i64 (i:Int))) none).run P w=.ok (.slice A i c) w:=by
 obtain ⟨h1,h2⟩:=nG ht
 obtain ⟨inf,yw,xY⟩:=px hs
 rw [run_slice_h (P:=P) (w:=w) t A n c h1 .i64 (i:Int) oM oM,h2]
 simp [sizeOf,typeInfo,yw,sliced,vk]
theorem pd {t e:TypeId} (ht:P.underlying t=some (.slice e)) {s:Nat} (hs:(P.info? e).map (·.size)=some s) (A:Option Addr) (n c i:Nat) (hi:i≤n) (w:World) :
  (Instr.slice t (.slice A n c) (some (.int .i64 (i:Int))) none none).run P w=.ok (.slice (if c=i then A else A.map (fun p=>p.add (i * s))) (n - i) (c - i)) w:=by
 obtain ⟨h1,h2⟩:=nG ht
 obtain ⟨inf,yw,xY⟩:=px hs
 rw [run_slice_l (P:=P) (w:=w) t A n c h1 .i64 (i:Int) oM oM,h2]
 simp [sizeOf,typeInfo,yw,sliced,xY]
theorem lM (hg:o.guard=none) (t e:TypeId) (x y:Operand) (ho:o.op=.slice t x none (some y) none) (ht:P.underlying t=some (.slice e)) (s:Nat) (hs:(P.info? e).map (·.size)=some s)
  (A:Option Addr) (n c i:Nat) (hx:a.eval x=.slice A n c) (hy:a.eval y=.int .i64 (i:Int)) (hi:i≤n) (hc:n≤c)
  (h:K (a.put o.dst (.slice A i c)) w):if Region.wanted o (yielded ops tm)=true then o.wp P a w K Q else E:=by
 have hw:∀ tm:Array Value,Region.wanted o (yielded ops tm)=true:=fun tm=>by simp [Region.wanted,hg]
 rw [if_pos (hw _)]
 unfold Oper.wp execOp
 simp only [ho,hx,Option.map_some,Option.map_none,hy,run_sliceAt_slice (P:=P) (w:=w) t _ _ _ _ (nG ht).1,qS ht hs A n c i hi hc w,Sem.run_bind,Sem.run_pure,Result.andThen_ok]
 exact h
theorem km (hg:o.guard=none) (t e:TypeId) (x y:Operand) (ho:o.op=.slice t x (some y) none none) (ht:P.underlying t=some (.slice e)) (s:Nat) (hs:(P.info? e).map (·.size)=some s)
  (A:Option Addr) (n c i:Nat) (hx:a.eval x=.slice A n c) (hy:a.eval y=.int .i64 (i:Int)) (hi:i≤n) (hc:n≤c)
  (h:∀ A',(∀ (W:World) (B:Nat) (cs:List Value),bi W B s A n cs→bi W B s A' (n - i) (cs.drop (i * s)))→K (a.put o.dst (.slice A' (n - i) (c - i))) w):if Region.wanted o (yielded ops tm)=true then o.wp P a w K Q else E:=by
 have hw:∀ tm:Array Value,Region.wanted o (yielded ops tm)=true:=fun tm=>by simp [Region.wanted,hg]
 rw [if_pos (hw _)]
 unfold Oper.wp execOp
 simp only [ho,hx,Option.map_some,Option.map_none,hy,run_sliceAt_slice (P:=P) (w:=w) t _ _ _ _ (nG ht).1,pd ht hs A n c i hi w,Sem.run_bind,Sem.run_pure,Result.andThen_ok]
 exact h _ fun W B cs hr=>hr.drop i hi fun xu=>by rw [if_neg oM]
theorem jq (hg:o.guard=none) (s x:Operand) (t:TypeId) (ho:o.op=.call { callee:=.builtin .append,args:=#[s,x],argTypes:=#[t,t] })
  (e:TypeId) (z:Value) (k bytes:Nat) (ht:P.underlying t=some (.slice e)) (hinfo:(P.info? e).map (fun i=>(i.zero,i.size,i.bytes))=some (some z,k,bytes)) (yM:z.cells.size=k) (xY:0 < k) (Be:bytes≤1000)
  (B:Nat) (v:Value) (n:Nat) (xs:List Value) (hs:a.eval s=v) (xH:w.ownsRow B e k v n xs)
  (S:Nat) (A:Option Addr) (m c:Nat) (cs:List Value) (hx:a.eval x=.slice A m c) (hr:bi w S k A m cs) (h1:∀ u ∈ cs,u.oneCell'=true)
  (hn:n+m≤1000000000) (hbase:B≤w.heap.size)
  (h:∀ A' c' w',w'.ownsRow B e k (.slice A' (n+m) c') (n+m) (xs++cs)→w.grownBy w' v.ownBlock→Below B w w'→K (a.put o.dst (.slice A' (n+m) c')) w'):if Region.wanted o (yielded ops tm)=true then o.wp P a w K Q else E:=by
 have hw:∀ tm:Array Value,Region.wanted o (yielded ops tm)=true:=fun tm=>by simp [Region.wanted,hg]
 rw [if_pos (hw _)]
 refine vg s x t ho e z k bytes ht hinfo yM xY Be B v n xs hs (jZ xH) S A m c cs hx (jZ hr) h1 hn hbase fun v' w' h2 h3 h4 _=>?_
 obtain ⟨A',c',rfl⟩:=az h2.out
 exact h A' c' w' h2.out h3 h4
theorem iW {B k n:Nat} {e:TypeId} {A:Option Addr} {c:Nat} {xs:List Value} (h:w.ownsRow B e k (.slice A n c) n xs):n≤c:=by
 obtain ⟨_,⟨h0,h1⟩ | ⟨g,cap,cur,hv,_,_,hc,_⟩⟩:=h
 ·injection h0 with _ h2 h3; omega
 ·injection hv with _ _ h3; omega
end
abbrev aN.copy (x:aN) (g1 g2:Nat):aN:={ x with TA:=some ⟨g1,0,none⟩,tc:=x.t.length,OA:=some ⟨g2,0,none⟩,oc:=x.o.length }
theorem so {x:aN} {w:World} {g1 g2:Nat} (h1:ai w g1 104 (x.t.flatMap ar.enc)) (h2:ai w g2 147 (x.o.flatMap ae.enc)) (hn:x.t.length≤1048576) (hm:x.o.length≤1048576):aQ w w.heap.size (x.copy g1 g2) :=
 ⟨r6 h1 (show x.t.length≤9223372036854775807 by omega),pV h2 (show x.o.length≤9223372036854775807 by omega)⟩
end Go.Proofs.YtoeoimhemojdeaaGreatDoor
