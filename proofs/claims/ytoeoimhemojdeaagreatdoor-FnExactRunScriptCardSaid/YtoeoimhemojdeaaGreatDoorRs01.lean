/- Rs01: the texts NumF LogM SplitP Base In Ints More Tray Outing OffP StepP, joined into one file. -/
import Derived.Lib.ItoaNum
import Derived.Lib.ItoaLen
import Derived.Lib.AtoiTie
import Derived.Lib.IndexLaws
import Derived.Lib.LastIndexLaws
import Derived.Lib.IndexMore
import Derived.WalkKit
import Derived.WalkLawsBesides
import Derived.WalkSpells
import Derived.BigQuiet
import Derived.Deep.QuietTactic
import Derived.Deep.Draws
import Derived.Deep.MidRow
import Derived.Laws.CopyRow
import Derived.Outline
import Derived.Lib.Hide
import Derived.Handy
import Derived.Test.YtoeoimhemojdeaaGreatDoorProg

set_option linter.unusedVariables false
open Go.Value renaming int → O, slice → F, string → uk
open Go.IntKind renaming i64 → U

namespace Go.Proofs.YtoeoimhemojdeaaGreatDoor
def sq (n:Int):Prop:=-999999≤n∧n≤999999
theorem iV {d:Nat} (h:d < 10):Lib.digitVal (UInt8.ofNat (48+d))=some d:=by
 have:(UInt8.ofNat (48+d)).toNat=48+d:=by simp [UInt8.toNat_ofNat']; omega
 unfold Lib.digitVal
 rw [this,if_pos (by omega)]
 congr 1; omega
theorem lp:∀ (l r:List UInt8) (acc m:Nat),Lib.decFrom acc l=some m→Lib.decFrom acc (l++r)=Lib.decFrom m r
 | [],r,acc,m,h=>by simp only [Lib.decFrom,Option.some.injEq] at h; subst h; rfl
 | b :: l,r,acc,m,h=>by
  simp only [List.cons_append,Lib.decFrom] at h ⊢
  cases hb:Lib.digitVal b with
  | none=>rw [hb] at h; cases h
  | some d=>rw [hb] at h; exact lp l r _ _ h
theorem gI (n:Nat):Lib.decFrom 0 (Lib.decDigits n)=some n:=by
 induction n using Nat.strongRecOn with
 | _ n ih =>
  rw [Lib.decDigits]
  by_cases h:n < 10
  ·rw [dif_pos h]
   simp only [Lib.decFrom,iV h]
   congr 1; omega
  ·rw [dif_neg h,lp _ _ _ _ (ih (n / 10) (by omega))]
   simp only [Lib.decFrom,iV (Nat.mod_lt n (by omega:0 < 10))]
   congr 1; omega
theorem sr (n:Nat):Lib.decDigits n ≠ []:=by
 intro h
 have h1:=Lib.decDigits_length n
 have h2:=Lib.nDigits_pos n
 rw [h] at h1; simp at h1; omega
theorem nj (n:Nat):∀ b ∈ Lib.decDigits n,48≤b.toNat∧b.toNat≤57:=by
 intro b hb
 obtain ⟨k,hk,e⟩:=List.getElem_of_mem hb
 obtain ⟨d,hd⟩:=Lib.digit_of_decFrom _ _ _ (gI n) k b (by rw [List.getElem?_eq_getElem hk,e])
 have:=Lib.digitVal_eq hd
 omega
theorem l8 (n:Nat):Lib.decNat (Lib.decDigits n)=some n:=by
 unfold Lib.decNat
 rw [if_neg (by simp [sr])]
 exact gI n
theorem kE (n:Int):Lib.atoi (Lib.itoa n)=some n:=by
 unfold Lib.itoa
 by_cases h:n < 0
 ·rw [if_pos h]
  simp only [Lib.atoi,beq_self_eq_true,if_true,l8,Option.map_some,Option.some.injEq]
  omega
 ·rw [if_neg h]
  obtain ⟨m,rfl⟩:=Int.eq_ofNat_of_zero_le (by omega:0≤n)
  rw [Int.toNat_natCast]
  cases hd:Lib.decDigits m with
  | nil=>exact absurd hd (sr m)
  | cons b r =>
   have hb:=nj m b (by rw [hd]; simp)
   have h1:(b == 45)=false:=by
    rw [beq_eq_false_iff_ne]; intro e; subst e; have:(45:UInt8).toNat=45:=rfl; omega
   have h2:(b == 43)=false:=by
    rw [beq_eq_false_iff_ne]; intro e; subst e; have:(43:UInt8).toNat=43:=rfl; omega
   simp only [Lib.atoi,h1,h2,Bool.false_eq_true,if_false]
   rw [← hd,l8]
   rfl
theorem ss {n m:Int} (h:Lib.itoa n=Lib.itoa m):n=m:=by
 have:=kE n
 rw [h,kE m] at this
 exact (Option.some.inj this).symm
theorem gJ {n:Nat} (h:n≤999999):Lib.nDigits n≤6:=by
 by_cases h0:n=0
 ·subst h0; rw [Lib.nDigits_small (by omega)]; omega
 ·have h1:=Lib.nDigits_pos n
  by_cases h2:Lib.nDigits n≤6
  ·exact h2
  ·exfalso
   have key:∀ (k n:Nat),n < 10 ^ (k+1)→Lib.nDigits n≤k+1:=by
    intro k
    induction k with
    | zero=>intro n hn; rw [Lib.nDigits_small (by simpa using hn)]; omega
    | succ k ih =>
     intro n hn
     by_cases hs:n < 10
     ·rw [Lib.nDigits_small hs]; omega
     ·rw [Lib.nDigits_big hs]
      have:=ih (n / 10) (Nat.div_lt_of_lt_mul (by rw [Nat.mul_comm,← Nat.pow_succ]; exact hn))
      omega
   exact h2 (key 5 n (by omega))
theorem su {n:Int} (h:sq n):1≤(Lib.itoa n).length∧(Lib.itoa n).length≤7:=by
 unfold Lib.itoa
 obtain ⟨h1,h2⟩:=h
 split
 ·have:=gJ (n:=n.natAbs) (by omega)
  rw [List.length_cons,Lib.decDigits_length]; omega
 ·have:=gJ (n:=n.toNat) (by omega)
  have h3:=Lib.nDigits_pos n.toNat
  rw [Lib.decDigits_length]; omega
open Classical in
noncomputable def cj (s:List UInt8):Option Int:=if h:∃ n,sq n∧Lib.itoa n=s then some h.choose else none
theorem rl {n:Int} (h:sq n):cj (Lib.itoa n)=some n:=by
 have hex:∃ m,sq m∧Lib.itoa m=Lib.itoa n:=⟨n,h,rfl⟩
 unfold cj
 rw [dif_pos hex]
 exact congrArg some (ss hex.choose_spec.2)
theorem lZ {n:Int} {s:List UInt8} (h:sq n) (e:Lib.itoa n=s):cj s=some n:=e ▸ rl h
theorem gK {n:Int} {s:List UInt8} (h:cj s=some n):sq n∧Lib.itoa n=s:=by
 by_cases hex:∃ m,sq m∧Lib.itoa m=s
 ·unfold cj at h
  rw [dif_pos hex] at h
  have:=hex.choose_spec
  rw [Option.some.inj h] at this
  exact this
 ·unfold cj at h
  rw [dif_neg hex] at h; cases h
theorem oG {n:Int} (h:sq n):Lib.atoiAll (Lib.itoa n)=.ok n:=by
 rw [Lib.atoiAll_short _ (by have:=su h; omega),kE]; rfl
theorem sw {s:List UInt8} {n:Int} (h:sq n) (e:Lib.itoa n=s) :
  (n < 0∧∃ t,s=45 :: t∧1≤t.length∧t.length≤6∧Lib.decFrom 0 t=some n.natAbs) ∨ (0≤n∧s.head? ≠ some 45∧1≤s.length∧s.length≤6∧Lib.decFrom 0 s=some n.natAbs):=by
 obtain ⟨h1,h2⟩:=h
 unfold Lib.itoa at e
 by_cases hn:n < 0
 ·left
  rw [if_pos hn] at e
  have h3:=gJ (n:=n.natAbs) (by omega)
  have h4:=Lib.nDigits_pos n.natAbs
  exact ⟨hn,_,e.symm,by rw [Lib.decDigits_length]; omega,by rw [Lib.decDigits_length]; omega,gI _⟩
 ·right
  rw [if_neg hn] at e
  have h3:=gJ (n:=n.toNat) (by omega)
  have h4:=Lib.nDigits_pos n.toNat
  have h5:n.natAbs=n.toNat:=by omega
  subst e
  refine ⟨by omega, ?_,by rw [Lib.decDigits_length]; omega,by rw [Lib.decDigits_length]; omega,by rw [h5]; exact gI _⟩
  intro hh
  have hm:(45:UInt8) ∈ Lib.decDigits n.toNat:=List.mem_of_mem_head? hh
  have:=nj _ _ hm
  have h6:(45:UInt8).toNat=45:=rfl
  omega
end Go.Proofs.YtoeoimhemojdeaaGreatDoor
namespace Go.Proofs.YtoeoimhemojdeaaGreatDoor
def dF (b:UInt8):List UInt8→List UInt8
 | []=>[]
 | x :: l=>if x=b then [] else x :: dF b l
theorem jU {b:UInt8} : ∀ {l:List UInt8},b ∉ l→dF b l=l
 | [],_=>rfl
 | x :: l,h=>by
  simp only [List.mem_cons,not_or] at h
  unfold dF; rw [if_neg (Ne.symm h.1),jU h.2]
theorem fi {b:UInt8} {r:List UInt8} : ∀ {t:List UInt8},b ∉ t→dF b (t++b :: r)=t
 | [],_=>by simp [dF]
 | x :: l,h=>by
  simp only [List.mem_cons,not_or] at h
  rw [List.cons_append]; unfold dF; rw [if_neg (Ne.symm h.1),fi h.2]
theorem fT (b:UInt8):∀ l:List UInt8,b ∉ dF b l
 | []=>by simp [dF]
 | x :: l=>by
  unfold dF; split
  ·simp
  ·rename_i h; simp only [List.mem_cons,not_or]; exact ⟨Ne.symm h,fT b l⟩
theorem jK (b:UInt8):∀ l:List UInt8,(b ∉ l∧dF b l=l) ∨ ∃ r,l=dF b l++b :: r
 | []=>.inl ⟨by simp,rfl⟩
 | x :: l=>by
  unfold dF
  by_cases h:x=b
  ·rw [if_pos h]; exact .inr ⟨l,by simp [h]⟩
  ·rw [if_neg h]
   rcases jK b l with ⟨h1,h2⟩ | ⟨r,h1⟩
   ·exact .inl ⟨by simp only [List.mem_cons,not_or]; exact ⟨Ne.symm h,h1⟩,by rw [h2]⟩
   ·exact .inr ⟨r,by rw [List.cons_append,← h1]⟩
theorem jV (b:UInt8) (l:List UInt8):(dF b l).length≤l.length:=by
 rcases jK b l with ⟨_,h⟩ | ⟨r,h⟩
 ·rw [h]; exact Nat.le_refl _
 ·have:=congrArg List.length h; simp at this; omega
theorem rm {b:UInt8} {l:List UInt8} : (dF b l).length=l.length ↔ b ∉ l:=by
 constructor
 ·intro h
  rcases jK b l with ⟨h1,_⟩ | ⟨r,h1⟩
  ·exact h1
  ·have:=congrArg List.length h1; simp at this; omega
 ·intro h; rw [jU h]
theorem l9 {b:UInt8} (l:List UInt8):l.take (dF b l).length=dF b l:=by
 rcases jK b l with ⟨_,h⟩ | ⟨r,h⟩
 ·rw [h]; simp
 ·have e:(dF b l++b :: r).take (dF b l).length=dF b l:=List.take_left' rfl
  rwa [← h] at e
theorem dr {b:UInt8} {l:List UInt8} (h:b ∈ l):l=dF b l++b :: l.drop ((dF b l).length+1):=by
 rcases jK b l with ⟨h1,_⟩ | ⟨r,h1⟩
 ·exact absurd h h1
 ·have e:(dF b l++b :: r).drop ((dF b l).length+1)=r:=by
   rw [List.drop_append,List.drop_eq_nil_of_le (by omega)]; simp
  rw [← h1] at e
  rw [e]; exact h1
theorem gL (s:List UInt8) (b:UInt8) (i:Nat):Lib.occAt s [b] i=decide (s[i]?=some b):=by
 unfold Lib.occAt
 rcases Nat.lt_or_ge i s.length with h | h
 ·rw [List.drop_eq_getElem_cons h,List.getElem?_eq_getElem h]
  by_cases e:s[i]=b
  ·subst e; simp [List.isPrefixOf]
  ·simp [List.isPrefixOf,e,Ne.symm e]
 ·rw [List.drop_eq_nil_of_le h,List.getElem?_eq_none h]; rfl
theorem iW {s:List UInt8} {b:UInt8} (h:b ∉ s):Lib.index s [b] = -1 :=
 Lib.index_none fun j _=>by
  rw [gL,decide_eq_false_iff_not]; intro e; exact h (List.mem_of_getElem? e)
theorem jz {t r:List UInt8} {b:UInt8} (h:b ∉ t):Lib.index (t++b :: r) [b]=t.length :=
 Lib.index_first (by simp) (by rw [gL]; simp) fun j hj=>by
  rw [gL,decide_eq_false_iff_not,List.getElem?_append_left hj]; intro e; exact h (List.mem_of_getElem? e)
theorem iw (s:List UInt8) (b:UInt8):(b ∉ s∧Lib.index s [b] = -1) ∨ (b ∈ s∧Lib.index s [b]=(dF b s).length):=by
 rcases jK b s with ⟨h,_⟩ | ⟨r,h⟩
 ·exact .inl ⟨h,iW h⟩
 ·refine .inr ⟨by rw [h]; simp, ?_⟩
  rw (occs:=[1]) [h]; exact jz (fT b s)
theorem nG (s:List UInt8) (b:UInt8):Lib.contains s [b]=s.contains b:=by
 unfold Lib.contains
 rcases iw s b with ⟨h,e⟩ | ⟨h,e⟩
 ·rw [e]; simp [h]
 ·rw [e]; simp [h]
theorem nH {t r:List UInt8} {b:UInt8} (h:b ∉ r):Lib.lastIndex (t++b :: r) [b]=t.length:=by
 unfold Lib.lastIndex
 rw [if_pos (by simp; omega)]
 rcases Lib.lastOcc_spec (t++b :: r) [b] ((t++b :: r).length - [b].length+1) with ⟨_,hn⟩ | ⟨i,hi,e,ho,hn⟩
 ·have:=hn t.length (by simp; omega)
  rw [gL] at this; simp at this
 ·rw [e]
  rw [gL,decide_eq_true_eq] at ho
  rcases Nat.lt_trichotomy i t.length with hlt | heq | hgt
  ·have:=hn t.length hlt (by simp; omega)
   rw [gL] at this; simp at this
  ·rw [heq]
  ·exfalso
   rw [List.getElem?_append_right (by omega)] at ho
   obtain ⟨d,hd⟩ : ∃ d,i - t.length=d+1:=⟨i - t.length - 1,by omega⟩
   rw [hd,List.getElem?_cons_succ] at ho
   exact h (List.mem_of_getElem? ho)
theorem oH (s:List UInt8) (b:UInt8):Lib.lastIndex s [b] = -1 ∨ ∃ i:Nat,Lib.lastIndex s [b]=i∧i < s.length∧s[i]?=some b:=by
 unfold Lib.lastIndex
 split
 ·rcases Lib.lastOcc_spec s [b] (s.length - [b].length+1) with ⟨e,_⟩ | ⟨i,hi,e,ho,_⟩
  ·exact .inl e
  ·rw [gL,decide_eq_true_eq] at ho
   exact .inr ⟨i,e,(List.getElem?_eq_some_iff.1 ho).1,ho⟩
 ·exact .inl rfl
theorem rn:∀ (n:Nat) (c:UInt8),c ∈ Lib.decDigits n→48≤c.toNat∧c.toNat≤57:=by
 intro n
 induction n using Nat.strongRecOn with
 | ind n ih =>
  intro c hc
  rw [Lib.decDigits] at hc
  have one:∀ k,k < 10→c=UInt8.ofNat (48+k)→48≤c.toNat∧c.toNat≤57:=by
   intro k hk e
   have:c.toNat=48+k:=by rw [e,UInt8.toNat_ofNat']; omega
   omega
  split at hc
  ·rename_i h; exact one n h (by simpa using hc)
  ·rename_i h
   rcases List.mem_append.1 hc with h1 | h1
   ·exact ih (n / 10) (by omega) c h1
   ·exact one (n % 10) (by omega) (by simpa using h1)
theorem sx (n:Nat):Lib.itoa (n:Int)=Lib.decDigits n:=by unfold Lib.itoa; rw [if_neg (by omega),Int.toNat_natCast]
theorem ji {n:Nat} {b:UInt8} (h:b.toNat < 48 ∨ 57 < b.toNat):b ∉ Lib.itoa (n:Int):=by
 rw [sx]; intro hb; have:=rn n b hb; omega
theorem nk {n:Nat} (h:n≤9223372036854775807):(Lib.itoa (n:Int)).length≤21:=Lib.itoa_length_le _ (by omega) (by omega)
def iX (c:UInt8):Bool:=decide (32≤c.toNat) && decide (c.toNat≤126) && c != 35
def bV (l:List UInt8):Bool:=l.all iX
theorem ma {l:List UInt8} (h:bV l=true):(35:UInt8) ∉ l:=fun hm=>by
 have:=List.all_eq_true.1 h _ hm; simp [iX] at this
theorem oI {l:List UInt8} (h:bV l=true):(10:UInt8) ∉ l:=fun hm=>by
 have:=List.all_eq_true.1 h _ hm; simp [iX] at this
def gf (c r:List UInt8):Bool:=decide (1≤c.length) && decide (c.length≤160) && bV c && !c.contains 64 && bV r && decide (r.length≤200)
theorem dt {c r:List UInt8} : gf c r=true ↔ 1≤c.length∧c.length≤160∧bV c=true∧(64:UInt8) ∉ c∧bV r=true∧r.length≤200:=by
 unfold gf; simp [Bool.and_eq_true,and_assoc]
def fU:Nat→List UInt8→Nat
 | h,[]=>h
 | h,c :: l=>fU ((41 * h+c.toNat+1) % 999979) l
theorem mb:∀ (l:List UInt8) (h:Nat),h < 999979→fU h l < 999979
 | [],_,h=>h
 | _ :: l,_,_=>mb l _ (Nat.mod_lt _ (by omega))
def ix (l:List UInt8):Nat:=fU 7 l
theorem nI (l:List UInt8):ix l < 999979:=mb l 7 (by omega)
def dZ (t:List UInt8):List UInt8:=t++35 :: Lib.itoa (ix t)
theorem jW (t:List UInt8):(dZ t).length≤t.length+22:=by
 have:=nk (n:=ix t) (by have:=nI t; omega)
 unfold dZ; simp; omega
theorem gh {t:List UInt8} (h:(35:UInt8) ∉ t):dF 35 (dZ t)=t:=fi h
theorem ro (t:List UInt8):Lib.lastIndex (dZ t) [35]=t.length:=nH (ji (by decide))
def fj (k:Nat) (c r:List UInt8):List UInt8:=Lib.itoa (k:Int)++[32]++c++[64]++r
def cu (k:Nat) (c r:List UInt8):List UInt8:=dZ (fj k c r)++[10]
theorem gi {k:Nat} {c r:List UInt8} (h:gf c r=true):(35:UInt8) ∉ fj k c r:=by
 obtain ⟨_,_,h1,_,h2,_⟩:=dt.1 h
 have a:=ji (n:=k) (b:=35) (by decide)
 have b:=ma h1
 have d:=ma h2
 unfold fj; simp [a,b,d]
theorem l5 {k:Nat} {c r:List UInt8} (h:gf c r=true) (hk:k≤9223372036854775807):(fj k c r).length≤383:=by
 obtain ⟨_,h1,_,_,_,h2⟩:=dt.1 h
 have:=nk hk
 unfold fj; simp; omega
theorem mc {k:Nat} {c r:List UInt8} (h:gf c r=true) (hk:k≤9223372036854775807):(cu k c r).length≤406:=by
 have:=l5 h hk
 have:=jW (fj k c r)
 unfold cu; simp; omega
theorem tB {k:Nat} {c r:List UInt8} (h:gf c r=true):(10:UInt8) ∉ dZ (fj k c r):=by
 obtain ⟨_,_,h1,_,h2,_⟩:=dt.1 h
 have a:=ji (n:=k) (b:=10) (by decide)
 have a':=ji (n:=ix (fj k c r)) (b:=10) (by decide)
 have b:=oI h1
 have d:=oI h2
 unfold dZ
 simp only [List.mem_append,List.mem_cons,not_or]
 refine ⟨?_,by decide,a'⟩
 unfold fj; simp [a,b,d]
def sz (k:Nat) (c r s:List UInt8):Prop:=gf c r=true∧dZ (fj k c r)=s
theorem sz.inj {k:Nat} {c r c' r' s:List UInt8} (h:sz k c r s) (h' : sz k c' r' s):c=c'∧r=r':=by
 obtain ⟨h1,h2⟩:=h
 obtain ⟨h1',h2'⟩:=h'
 have e:fj k c r=fj k c' r':=by rw [← gh (gi h1),← gh (gi h1'),h2,h2']
 unfold fj at e
 simp only [List.append_assoc] at e
 have e2:=List.append_cancel_left (List.append_cancel_left e)
 obtain ⟨_,_,_,n,_⟩:=dt.1 h1
 obtain ⟨_,_,_,n',_⟩:=dt.1 h1'
 have a:=fi (r:=r) n
 have a':=fi (r:=r') n'
 have e3:c++64 :: r=c'++64 :: r':=e2
 rw [e3,a'] at a
 subst a
 exact ⟨rfl,by simpa using List.append_cancel_left e3⟩
open Classical in
noncomputable def dG (k:Nat) (s:List UInt8):Option (List UInt8 × List UInt8):=if h:∃ p:List UInt8 × List UInt8,sz k p.1 p.2 s then some h.choose else none
theorem kF {k:Nat} {c r s:List UInt8} (h:sz k c r s):dG k s=some (c,r):=by
 have hex:∃ p:List UInt8 × List UInt8,sz k p.1 p.2 s:=⟨(c,r),h⟩
 unfold dG
 rw [dif_pos hex]
 obtain ⟨e1,e2⟩:=hex.choose_spec.inj h
 exact congrArg some (Prod.ext e1 e2)
theorem fy {k:Nat} {s:List UInt8} (h:∀ c r,¬ sz k c r s):dG k s=none:=by
 unfold dG
 rw [dif_neg (fun ⟨p,hp⟩=>h _ _ hp)]
theorem sG {k:Nat} {c r s:List UInt8} (h:dG k s=some (c,r)):sz k c r s:=by
 by_cases hex:∃ p:List UInt8 × List UInt8,sz k p.1 p.2 s
 ·unfold dG at h
  rw [dif_pos hex] at h
  have:=hex.choose_spec
  rw [Option.some.inj h] at this
  exact this
 ·unfold dG at h
  rw [dif_neg hex] at h; cases h
def oF (t s:List UInt8):Prop:=(35:UInt8) ∉ t∧dZ t=s∧t.length≤4000∧s.length≤4000
theorem oF.inj {t t' s:List UInt8} (h:oF t s) (h' : oF t' s):t=t':=by
 rw [← gh h.1,← gh h'.1,h.2.1,h'.2.1]
theorem sz.ver {k:Nat} {c r s:List UInt8} (h:sz k c r s) (hk:k≤9223372036854775807):oF (fj k c r) s:=by
 refine ⟨gi h.1,h.2,by have:=l5 h.1 hk; omega, ?_⟩
 rw [← h.2]; have:=l5 h.1 hk; have:=jW (fj k c r); omega
theorem pP {k:Nat} {s:List UInt8} (hk:k≤9223372036854775807) (h:∀ t,¬ oF t s):dG k s=none:=fy fun _ _ he=>h _ (he.ver hk)
theorem pQ {k:Nat} {s t:List UInt8} (hk:k≤9223372036854775807) (hv:oF t s) (h : ¬ (Lib.itoa (k:Int)++[32]) <+: t):dG k s=none:=fy fun c r he=>h (by
 rw [hv.inj (he.ver hk)]
 exact ⟨c++[64]++r,by unfold fj; simp⟩)
theorem rq {k:Nat} {s t u:List UInt8} (hk:k≤9223372036854775807) (hv:oF t s) (ht:t=Lib.itoa (k:Int)++[32]++u) (h:(64:UInt8) ∉ u):dG k s=none:=fy fun c r he=>h (by
 have e:=hv.inj (he.ver hk)
 rw [ht] at e
 unfold fj at e
 simp only [List.append_assoc] at e
 have:=List.append_cancel_left (List.append_cancel_left e)
 rw [this]; simp)
theorem oJ {k:Nat} {s t c r:List UInt8} (hk:k≤9223372036854775807) (hv:oF t s) (ht:t=Lib.itoa (k:Int)++[32]++(c++64 :: r)) (hc:(64:UInt8) ∉ c) :
  dG k s=if gf c r=true then some (c,r) else none:=by
 have e0:fj k c r=t:=by rw [ht]; unfold fj; simp
 split
 ·rename_i h; exact kF ⟨h,by rw [e0]; exact hv.2.1⟩
 ·rename_i h
  refine fy fun c' r' he=>h ?_
  have e:=hv.inj (he.ver hk)
  rw [← e0] at e
  unfold fj at e
  simp only [List.append_assoc] at e
  have e2:=List.append_cancel_left (List.append_cancel_left e)
  have e3:c++64 :: r=c'++64 :: r':=e2
  obtain ⟨_,_,_,n',_⟩:=dt.1 he.1
  have a:=fi (r:=r) hc
  rw [e3,fi n'] at a
  subst a
  have:r=r':=by simpa using List.append_cancel_left e3
  subst this
  exact he.1
theorem nJ {k:Nat} {s:List UInt8} (h : ¬ (Lib.itoa (k:Int)++[32]) <+: dF 35 s):dG k s=none:=fy fun c r he=>h (by
 rw [← he.2,gh (gi he.1)]
 exact ⟨c++[64]++r,by unfold fj; simp⟩)
theorem oK {k:Nat} {s u:List UInt8} (ht:dF 35 s=Lib.itoa (k:Int)++[32]++u) (h:(64:UInt8) ∉ u):dG k s=none:=fy fun c r he=>h (by
 rw [← he.2,gh (gi he.1)] at ht
 unfold fj at ht
 simp only [List.append_assoc] at ht
 have:=List.append_cancel_left (List.append_cancel_left ht)
 rw [← this]; simp)
theorem nK {k:Nat} {s c r:List UInt8} (ht:dF 35 s=Lib.itoa (k:Int)++[32]++(c++64 :: r)) (hc:(64:UInt8) ∉ c) :
  dG k s=if gf c r=true∧cu k c r=s++[10] then some (c,r) else none:=by
 split
 ·rename_i h; exact kF ⟨h.1,List.append_cancel_right h.2⟩
 ·rename_i h
  refine fy fun c' r' he=>h ?_
  have e:=ht
  rw [← he.2,gh (gi he.1)] at e
  unfold fj at e
  simp only [List.append_assoc] at e
  have e2:=List.append_cancel_left (List.append_cancel_left e)
  have e3:c'++64 :: r'=c++64 :: r:=e2
  obtain ⟨_,_,_,n',_⟩:=dt.1 he.1
  have a:=fi (r:=r) hc
  rw [← e3,fi n'] at a
  subst a
  have:r'=r:=by simpa using List.append_cancel_left e3
  subst this
  exact ⟨he.1,by unfold cu; rw [he.2]⟩
noncomputable def aW:Nat→Nat→List UInt8→List ((List UInt8 × List UInt8) × Nat)
 | 0,_,_=>[]
 | n+1,k,s=>if (10:UInt8) ∈ s then
   match dG k (dF 10 s) with
   | none=>[]
   | some e=>(e,(dF 10 s).length+1) :: aW n (k+1) (s.drop ((dF 10 s).length+1))
  else []
def dJ (l:List ((List UInt8 × List UInt8) × Nat)):Nat:=(l.map (·.2)).sum
theorem fZ (e:(List UInt8 × List UInt8) × Nat) (l:List ((List UInt8 × List UInt8) × Nat)):dJ (e :: l)=e.2+dJ l:=by simp [dJ]
theorem eh {n k:Nat} {s:List UInt8} (h:(10:UInt8) ∉ s):aW n k s = []:=by cases n <;> simp [aW,h]
theorem es {n k:Nat} {s:List UInt8} (h:dG k (dF 10 s)=none):aW n k s = []:=by cases n <;> simp [aW,h]
theorem dH {n k:Nat} {s:List UInt8} {e:List UInt8 × List UInt8} (h1:(10:UInt8) ∈ s) (h2:dG k (dF 10 s)=some e) :
  aW (n+1) k s=(e,(dF 10 s).length+1) :: aW n (k+1) (s.drop ((dF 10 s).length+1)):=by simp [aW,h1,h2]
theorem iy:∀ (n k:Nat) (s:List UInt8),dJ (aW n k s)≤s.length
 | 0,_,_=>by simp [aW,dJ]
 | n+1,k,s=>by
  by_cases h1:(10:UInt8) ∈ s
  ·cases h2:dG k (dF 10 s) with
   | none=>rw [es h2]; simp [dJ]
   | some e =>
    rw [dH h1 h2,fZ]
    have:=iy n (k+1) (s.drop ((dF 10 s).length+1))
    have h3:=congrArg List.length (dr h1)
    simp at this h3
    simp only
    omega
  ·rw [eh h1]; simp [dJ]
theorem dL:∀ (n k:Nat) (s:List UInt8),(aW n k s).length≤n
 | 0,_,_=>by simp [aW]
 | n+1,k,s=>by
  by_cases h1:(10:UInt8) ∈ s
  ·cases h2:dG k (dF 10 s) with
   | none=>rw [es h2]; simp
   | some e=>rw [dH h1 h2,List.length_cons]; have:=dL n (k+1) (s.drop ((dF 10 s).length+1)); omega
  ·rw [eh h1]; simp
theorem lq:∀ (n k:Nat) (s:List UInt8),n+k≤1000→dJ (aW n k s)≤406 * n
 | 0,_,_,_=>by simp [aW,dJ]
 | n+1,k,s,h=>by
  by_cases h1:(10:UInt8) ∈ s
  ·cases h2:dG k (dF 10 s) with
   | none=>rw [es h2]; simp [dJ]
   | some e =>
    rw [dH h1 h2,fZ]
    have:=lq n (k+1) (s.drop ((dF 10 s).length+1)) (by omega)
    obtain ⟨c,r⟩:=e
    have he:=sG h2
    have hl:=mc (k:=k) he.1 (by omega)
    unfold cu at hl; rw [he.2] at hl; simp at hl
    simp only
    omega
  ·rw [eh h1]; simp [dJ]
def du:Nat→List ((List UInt8 × List UInt8) × Nat)→List Nat
 | a,[]=>[a]
 | a,e :: l=>a :: du (a+e.2) l
theorem sI (a:Nat) (l:List ((List UInt8 × List UInt8) × Nat)):du a l ≠ []:=by cases l <;> simp [du]
theorem iz:∀ (a:Nat) (l:List ((List UInt8 × List UInt8) × Nat)),(du a l).length=l.length+1
 | _,[]=>rfl
 | a,_ :: l=>by simp [du,iz (a+_) l]
theorem me:∀ (a:Nat) (l:List ((List UInt8 × List UInt8) × Nat)) (e:(List UInt8 × List UInt8) × Nat),du a (l++[e])=du a l++[a+dJ l+e.2]
 | a,[],e=>by simp [du,dJ]
 | a,x :: l,e=>by simp [du,me (a+x.2) l e,fZ,Nat.add_assoc]
theorem mf:∀ (a:Nat) (l:List ((List UInt8 × List UInt8) × Nat)),(du a l)[l.length]?=some (a+dJ l)
 | _,[]=>by simp [du,dJ]
 | a,x :: l=>by simp [du,mf (a+x.2) l,fZ,Nat.add_assoc]
theorem oL:∀ (a:Nat) (l:List ((List UInt8 × List UInt8) × Nat)) (x:Nat),x ∈ du a l→a≤x
 | a,[],x,h=>by simp [du] at h; omega
 | a,e :: l,x,h=>by
  simp only [du,List.mem_cons] at h
  rcases h with h | h
  ·omega
  ·have:=oL (a+e.2) l x h; omega
theorem oM:∀ (n k a:Nat) (D P:List UInt8),a+D.length ∈ du a (aW n k (D++P)) ↔ dJ (aW n k D)=D.length
 | 0,k,a,D,P=>by simp only [aW,du,dJ,List.map_nil,List.sum_nil,List.mem_singleton]; omega
 | n+1,k,a,D,P=>by
  by_cases hD:D.length=0
  ·have:D = []:=List.eq_nil_of_length_eq_zero hD
   subst this
   rw [eh (s:=[]) (by simp)]
   constructor
   ·intro _; rfl
   ·intro _
    have:du a (aW (n+1) k ([]++P)) ≠ []:=sI _ _
    cases h:aW (n+1) k ([]++P) <;> simp [du]
  ·by_cases h1:(10:UInt8) ∈ D
   ·have e1:=dr h1
    have h1' : (10:UInt8) ∈ D++P:=by simp [h1]
    have hb:dF 10 (D++P)=dF 10 D:=by
     rw (occs:=[1]) [e1]
     rw [List.append_assoc,List.cons_append]; exact fi (fT 10 D)
    have hlen:(dF 10 D).length+1≤D.length:=by have:=congrArg List.length e1; simp at this; omega
    cases h2:dG k (dF 10 D) with
    | none =>
     rw [es (by rw [hb]; exact h2),es h2]
     simp only [du,dJ,List.map_nil,List.sum_nil,List.mem_singleton]; omega
    | some e =>
     rw [dH h1' (by rw [hb]; exact h2),dH h1 h2,hb]
     have e2:(D++P).drop ((dF 10 D).length+1)=D.drop ((dF 10 D).length+1)++P:=List.drop_append_of_le_length hlen
     rw [e2,fZ]
     simp only [du,List.mem_cons]
     have ih:=oM n (k+1) (a+((dF 10 D).length+1)) (D.drop ((dF 10 D).length+1)) P
     rw [List.length_drop] at ih
     have e3:a+((dF 10 D).length+1)+(D.length - ((dF 10 D).length+1))=a+D.length:=by omega
     rw [e3] at ih
     constructor
     ·rintro (h | h)
      ·omega
      ·have:=ih.1 h; omega
     ·intro h
      exact .inr (ih.2 (by omega))
   ·rw [eh h1]
    simp only [dJ,List.map_nil,List.sum_nil]
    constructor
    ·intro h
     exfalso
     by_cases h3:(10:UInt8) ∈ D++P
     ·cases h2:dG k (dF 10 (D++P)) with
      | none=>rw [es h2] at h; simp only [du,List.mem_singleton] at h; omega
      | some e =>
       rw [dH h3 h2] at h
       simp only [du,List.mem_cons] at h
       rcases h with h | h
       ·omega
       ·have:=oL _ _ _ h
        have hge:D.length≤(dF 10 (D++P)).length:=by
         rcases Nat.lt_or_ge (dF 10 (D++P)).length D.length with hlt | hge
         ·exfalso
          have e4:=dr h3
          have h5:(D++P)[(dF 10 (D++P)).length]?=some 10:=by rw (occs:=[1]) [e4]; simp
          rw [List.getElem?_append_left hlt] at h5
          exact h1 (List.mem_of_getElem? h5)
         ·exact hge
        omega
     ·rw [eh h3] at h; simp only [du,List.mem_singleton] at h; omega
    ·intro h; omega
noncomputable def qM (D P:List UInt8) (n:Int):Bool :=
 decide (dJ (aW 60 0 (D++P))=D.length+P.length) && decide (dJ (aW 60 0 D)=D.length) && decide (((aW 60 0 (D++P)).length:Int)=n)
theorem ls {D P:List UInt8} (h:dJ (aW 60 0 (D++P))=D.length+P.length):D.length+P.length≤30000:=by
 have:=lq 60 0 (D++P) (by omega); omega
theorem eV {D P:List UInt8} {n:Int} : qM D P n=true ↔ dJ (aW 60 0 (D++P))=D.length+P.length∧dJ (aW 60 0 D)=D.length∧((aW 60 0 (D++P)).length:Int)=n:=by
 unfold qM; simp [Bool.and_eq_true,and_assoc]
theorem pR {D P:List UInt8} {n:Int} : qM D P n=true ↔ dJ (aW 60 0 (D++P))=D.length+P.length∧D.length ∈ du 0 (aW 60 0 (D++P))∧n=((aW 60 0 (D++P)).length:Int):=by
 have:=oM 60 0 0 D P
 rw [Nat.zero_add] at this
 rw [eV,this]
 constructor <;> (rintro ⟨h1,h2,h3⟩; exact ⟨h1,h2,h3.symm⟩)
end Go.Proofs.YtoeoimhemojdeaaGreatDoor
namespace Go.Proofs.YtoeoimhemojdeaaGreatDoor
def cw (b:UInt8):List UInt8→List UInt8→List (List UInt8)
 | cur,[]=>[cur]
 | cur,x :: l=>if x=b then cur :: cw b [] l else cw b (cur++[x]) l
def aH (b:UInt8) (s:List UInt8):List (List UInt8):=cw b [] s
theorem mg {b:UInt8} : ∀ {l cur:List UInt8},b ∉ l→cw b cur l = [cur++l]
 | [],_,_=>by simp [cw]
 | x :: l,cur,h=>by
  simp only [List.mem_cons,not_or] at h
  rw [cw,if_neg (Ne.symm h.1),mg h.2]; simp
theorem nl {b:UInt8} {r:List UInt8} : ∀ {t cur:List UInt8},b ∉ t→cw b cur (t++b :: r)=(cur++t) :: cw b [] r
 | [],_,_=>by simp [cw]
 | x :: t,cur,h=>by
  simp only [List.mem_cons,not_or] at h
  rw [List.cons_append,cw,if_neg (Ne.symm h.1),nl h.2]; simp
theorem jL {b:UInt8} {l:List UInt8} (h:b ∉ l):aH b l = [l]:=by unfold aH; rw [mg h]; rfl
theorem nn {b:UInt8} {t r:List UInt8} (h:b ∉ t):aH b (t++b :: r)=t :: aH b r:=by unfold aH; rw [nl h]; rfl
theorem jX (b:UInt8):∀ (l cur:List UInt8),cw b cur l ≠ []
 | [],_=>by simp [cw]
 | x :: l,cur=>by
  unfold cw; split
  ·simp
  ·exact jX b l _
theorem fz (b:UInt8):∀ (l cur:List UInt8),(cw b cur l).length≤l.length+1
 | [],_=>by simp [cw]
 | x :: l,cur=>by
  unfold cw; split
  ·have:=fz b l []; simp; omega
  ·have:=fz b l (cur++[x]); simp; omega
theorem kG {b:UInt8} {t:List UInt8} : ∀ (l cur:List UInt8),t ∈ cw b cur l→t.length≤cur.length+l.length
 | [],cur,h=>by simp only [cw,List.mem_singleton] at h; subst h; simp
 | x :: l,cur,h=>by
  unfold cw at h; split at h
  ·rcases List.mem_cons.1 h with h | h
   ·subst h; omega
   ·have:=kG l [] h; simp at this ⊢; omega
  ·have:=kG l _ h; simp at this ⊢; omega
theorem gj (b:UInt8) (s:List UInt8):∃ ps,aH b s=dF b s :: ps∧(ps = [] ↔ b ∉ s):=by
 rcases jK b s with ⟨h1,h2⟩ | ⟨r,h⟩
 ·exact ⟨[],by rw [jL h1,h2],by simp [h1]⟩
 ·refine ⟨aH b r, ?_, ?_⟩
  ·have h1:=nn (r:=r) (fT b s)
   rw [← h] at h1; exact h1
  ·constructor
   ·intro e; exact absurd e (jX b r [])
   ·intro hn; exact absurd (by rw [h]; simp) hn
end Go.Proofs.YtoeoimhemojdeaaGreatDoor
namespace Go.Proofs.YtoeoimhemojdeaaGreatDoor
open Go.RowKit
structure an (B:Nat) (w:World) where
 val:World
 below:Below B w val
theorem an.cell {B:Nat} {w:World} (p:an B w) {a:Addr} (h:a.block < B):p.val.cell? a=w.cell? a:=p.below.cell h
theorem an.size {B:Nat} {w:World} (p:an B w):w.heap.size≤p.val.heap.size:=p.below.size
def an.start (B:Nat) (w:World):an B w:=⟨w,Below.refl B w⟩
instance an.any (B:Nat) (w:World):Inhabited (an B w):=⟨an.start B w⟩
def an.go {B:Nat} {w:World} (p:an B w) {w' : World} (hB:B≤w.heap.size) (h:Below p.val.heap.size p.val w'):an B w :=
 ⟨w',p.below.trans (h.mono (Nat.le_trans hB p.size))⟩
def an.go' {B:Nat} {w:World} (p:an B w) {w' : World} (h:Below B p.val w'):an B w:=⟨w',p.below.trans h⟩
theorem bf {P:Program} {id:Nat} {Q:Exit→Act→World→Prop} {a:Act} {B:Nat} {w:World} {l:List Oper} (p:an B w) (hm:P.follows .mixedOrders=true) (hB:Region.lexB .any l.toArray=true)
  (h:wpQuiet P l.toArray (fun w'=>∃ q:an B w,w'=q.val) (fun a'=>∀ w',(∃ q:an B w,w'=q.val)→Q .normal a' w') l a):(Code.region id l.toArray true).wp P Q a p.val :=
 wp_region_quiet (C:=fun w'=>∃ q:an B w,w'=q.val) hm hB ⟨⟨_,p.below.drew⟩,rfl⟩ (by simpa using h)
theorem ar {P:Program} {id:Nat} {Q:Exit→Act→World→Prop} {a:Act} {w:World} {l:List Oper} (hm:P.follows .mixedOrders=true) (hB:Region.lexB .any l.toArray=true)
  (h:wpQuiet P l.toArray (fun w'=>∃ q:an w.heap.size w,w'=q.val) (fun a'=>∀ w',(∃ q:an w.heap.size w,w'=q.val)→Q .normal a' w') l a):(Code.region id l.toArray true).wp P Q a w :=
 bf (an.start w.heap.size w) hm hB h
theorem aK {P:Program} {f:FuncId} {args:Array Value} {B:Nat} {w:World} {q:an B w} {v:Value} (hB:B≤w.heap.size)
  (h:Calls P f args q.val fun e w'=>e=.returned v∧Below q.val.heap.size q.val w'):Calls P f args q.val fun e w'=>e=.returned v∧∃ q' : an B w,w'=q'.val :=
 h.mono fun _ _ ⟨he,hb⟩=>⟨he,q.go hB hb,rfl⟩
theorem jY {P:Program} {f:FuncId} {args:Array Value} {B:Nat} {w:World} {q:an B w} {b b' : Bool} (hb:Hid (b=b')) (hB:B≤w.heap.size)
  (h:Calls P f args q.val fun e w'=>e=.returned (.bool b)∧Below q.val.heap.size q.val w'):Calls P f args q.val fun e w'=>e=.returned (.bool b')∧∃ q' : an B w,w'=q'.val:=by
 have:=hb.out; subst this; exact aK hB h
theorem pS {P:Program} {f:FuncId} {args:Array Value} {B:Nat} {w:World} {q:an B w} {v:Value}
  (h:Calls P f args q.val fun e w'=>e=.returned v∧q.val=w'):Calls P f args q.val fun e w'=>e=.returned v∧∃ q' : an B w,w'=q'.val :=
 h.mono fun _ _ ⟨he,hb⟩=>⟨he,q,hb.symm⟩
theorem ay {P:Program} {f:FuncId} {args:Array Value} {B:Nat} {w:World} {q:an B w} {b b' : Bool} (hb:Hid (b=b'))
  (h:Calls P f args q.val fun e w'=>e=.returned (.bool b)∧q.val=w'):Calls P f args q.val fun e w'=>e=.returned (.bool b')∧∃ q' : an B w,w'=q'.val:=by
 have:=hb.out; subst this; exact pS h
theorem aq {a b c:World} (h:Below a.heap.size a b) (k:Below b.heap.size b c):Below a.heap.size a c:=h.trans (k.mono h.size)
theorem aT {P:Program} {f:FuncId} {args:Array Value} {W:World} {v:Value}
  (h:Calls P f args W fun e w'=>e=.returned v∧Below W.heap.size W w'):Calls P f args W fun e w'=>e=.returned v∧∃ q' : an W.heap.size W,w'=q'.val :=
 h.mono fun _ _ ⟨he,hb⟩=>⟨he,⟨_,hb⟩,rfl⟩
structure aY (w:World) (B k:Nat) (A:Option Addr) (n:Nat) (cs:List Value):Prop where
 len:cs.length=n * k
 big:n≤9223372036854775807
 at_:0 < n→∃ b off,A=some ⟨b,off,none⟩∧b < B∧∀ j u,cs[j]?=some u→w.cell? ⟨b,off+j,none⟩=some u
theorem aY.keep {w w' : World} {B k n:Nat} {A:Option Addr} {cs:List Value} (h:aY w B k A n cs) (hk:∀ p:Addr,p.block < B→w'.cell? p=w.cell? p):aY w' B k A n cs :=
 ⟨h.len,h.big,fun hn=>by
  obtain ⟨b,off,e,hb,hc⟩:=h.at_ hn
  exact ⟨b,off,e,hb,fun j u hu=>(hk _ hb).trans (hc j u hu)⟩⟩
theorem aY.below {w w' : World} {B k n:Nat} {A:Option Addr} {cs:List Value} (h:aY w B k A n cs) (hb:Below B w w'):aY w' B k A n cs:=h.keep fun _ hp=>hb.cell hp
theorem aY.mono {w:World} {B B' k n:Nat} {A:Option Addr} {cs:List Value} (h:aY w B k A n cs) (hB:B≤B'):aY w B' k A n cs :=
 ⟨h.len,h.big,fun hn=>by
  obtain ⟨b,off,e,hb,hc⟩:=h.at_ hn
  exact ⟨b,off,e,by omega,hc⟩⟩
theorem aY.up {w w' : World} {B k n:Nat} {A:Option Addr} {cs:List Value} (h:aY w B k A n cs) (hb:Below B w w') (hB:B≤w.heap.size):aY w' w'.heap.size k A n cs :=
 (h.below hb).mono (Nat.le_trans hB hb.size)
theorem aY.then {w w' : World} {k n:Nat} {A:Option Addr} {cs:List Value} (h:aY w w.heap.size k A n cs) (hb:Below w.heap.size w w'):aY w' w'.heap.size k A n cs:=(h.below hb).mono hb.size
theorem aY.nil (w:World) (B k:Nat) (A:Option Addr):aY w B k A 0 []:=⟨by simp,by omega,fun h=>absurd h (by omega)⟩
theorem jj {α:Type} (enc:α→List Value) (k:Nat) (hk:∀ x,(enc x).length=k):∀ (l:List α) (i:Nat) (h:i < l.length) (j:Nat),j < k→(l.flatMap enc)[i * k+j]?=(enc l[i])[j]?
 | x :: l,0,_,j,hj=>by
  simp only [List.flatMap_cons,Nat.zero_mul,Nat.zero_add,List.getElem_cons_zero]
  rw [List.getElem?_append_left (by rw [hk]; exact hj)]
 | x :: l,i+1,h,j,hj=>by
  have e:(i+1) * k+j=(enc x).length+(i * k+j):=by rw [hk,Nat.succ_mul]; omega
  simp only [List.flatMap_cons,List.getElem_cons_succ]
  rw [e,List.getElem?_append_right (by omega),Nat.add_sub_cancel_left]
  exact jj enc k hk l i (by simpa using h) j hj
theorem fL {α:Type} (enc:α→List Value) (k:Nat) (hk:∀ x,(enc x).length=k):∀ l:List α,(l.flatMap enc).length=l.length * k
 | []=>by simp
 | x :: l=>by simp only [List.flatMap_cons,List.length_append,fL enc k hk l,hk,List.length_cons,Nat.succ_mul]; omega
def ah (w:World) (g:Nat) (t:TypeId) (cs:List Value):Prop:=w.heap[g]?=some (.cells cs.toArray t (0,0))
section
variable {w w' : World} {g:Nat} {t:TypeId} {cs:List Value}
theorem ah.lt (h:ah w g t cs):g < w.heap.size:=by
 rcases Nat.lt_or_ge g w.heap.size with hlt | hge
 ·exact hlt
 ·unfold ah at h; rw [Array.getElem?_eq_none hge] at h; cases h
theorem ah.cell (h:ah w g t cs) (i:Nat):w.cell? ⟨g,i,none⟩=cs[i]?:=by rw [cell_of_row w g i _ t (0,0) h]; simp
theorem ah.frozen (h:ah w g t cs) (i:Nat):w.frozen? ⟨g,i,none⟩=false:=frozen_of_row w g i _ t h
theorem ah.below {B:Nat} (h:ah w g t cs) (hb:Below B w w') (hg:g < B):ah w' g t cs:=(hb.block g hg).trans h
theorem ah.kept {row:Option Nat} (h:ah w g t cs) (hb:w.grownBy w' row) (hg:some g ≠ row):ah w' g t cs:=(hb.block g h.lt hg).trans h
theorem ah.alloc (h:ah w g t cs) (o:Obj):ah (w.alloc o) g t cs:=(Below.heap_alloc w o g h.lt).trans h
theorem ah.set (h:ah w g t cs) (i:Nat) (u:Value):ah (w.setCell ⟨g,i,none⟩ u) g t (cs.set i u):=by
 have:=heap_setCell_same w g i cs.toArray t u h
 unfold ah; rw [this]; simp
theorem ah.other (h:ah w g t cs) {p:Addr} (hp:g ≠ p.block) (u:Value):ah (w.setCell p u) g t cs:=(Below.heap_setCell w p u g hp).trans h
theorem ah.reads {k n:Nat} (h:ah w g t cs) (hl:cs.length=n * k) (hn:n≤9223372036854775807):aY w w.heap.size k (some ⟨g,0,none⟩) n cs :=
 ⟨hl,hn,fun _=>⟨g,0,rfl,h.lt,fun j u hu=>by rw [Nat.zero_add,h.cell]; exact hu⟩⟩
end
theorem ah.new (w:World) (t:TypeId) (cs:Array Value):ah (w.alloc (.cells cs t)) w.heap.size t cs.toList:=heap_alloc_new w _
theorem ah.of {w:World} {g:Nat} {t:TypeId} {cs:Array Value} (h:w.heap[g]?=some (.cells cs t (0,0))):ah w g t cs.toList:=h
theorem ah.own {w:World} {g:Nat} {t:TypeId} {cs:List Value} (h:ah w g t cs) {B k n:Nat} (hB:B≤g) (hl:cs.length=n * k) (hn:n≤maxLen):w.ownsRow B t k (F (some ⟨g,0,none⟩) n n) n cs:=by
 refine ⟨hl,Or.inr ⟨g,n,_,rfl,hB,h,Nat.le_refl _,hn,by simpa using hl, ?_⟩⟩
 simp only
 exact List.take_of_length_le (by omega)
def aU (cs:List Value) (i:Nat) (vs:List Value):List Value:=cs.take i++vs++cs.drop (i+vs.length)
theorem kH {P:Program} {ops:Array Oper} {rest:List Oper} {op:Oper} {a:Act} {w:World} {Q:Exit→Act→World→Prop} (hgd:op.guard=none) (ty:TypeId) (x y:Operand) (ho:op.op=.store ty x y)
  (g o:Nat) (t:TypeId) (vs:Array Value) (hx:a.eval x=.pointer (some ⟨g,o,none⟩)) (hy:a.eval y=.agg vs)
  (cs:List Value) (hl:ah w g t cs) (hfit:o+vs.size≤cs.length) (hi:(P.info? ty).map (·.size)=some vs.size) (h1:vs.all (·.oneCell')=true)
  (h:∀ w',ah w' g t (aU cs o vs.toList)→w.grownBy w' (some g)→wpList P ops Q rest (a.put op.dst undef) w'):wpList P ops Q (op :: rest) a w:=by
 refine wpList_plain hgd fun K hK=>?_
 have hrun:=run_storeCells_at (P:=P) g o t vs.toList 0 cs.toArray w hl (by simpa using hfit) (fun v hv=>(Array.all_eq_true_iff_forall_mem.1 h1) v (by simpa using hv))
 cases hq:P.info? ty with
 | none=>simp [hq] at hi
 | some i =>
  have hs:vs.size=i.size:=by simp [hq] at hi; omega
  unfold Oper.wp execOp
  simp only [ho,hx,hy,Instr.storeAt,Instr.sureAddr,Sem.run_bind,Sem.run_pure,Result.andThen_ok]
  simp only [Nat.add_zero] at hrun
  simp [storeVar,sizeOf,typeInfo,hq,Value.cells,← hs,hrun,Oper.upon]
  refine hK _ _ (h _ ?_ ?_)
  ·have:=setRow_heap w g cs.toArray (cs.take o++vs.toList++cs.drop (o+vs.size)).toArray t _ hl
   unfold ah aU
   simpa using this
  ·refine ⟨rfl,rfl,rfl,by simp [World.setRow],fun k hk hne=>?_⟩
   simp only [World.setRow,Array.getElem?_modify]
   rw [if_neg (fun e=>hne (by rw [e]))]
theorem oN {α:Type} (enc:α→List Value) (k:Nat) (hk:∀ x,(enc x).length=k) (l:List α) (i:Nat) (hi:i < l.length) (rest:List Value) (hr:rest.length=(l.length - i) * k) :
  ∃ rest',aU ((l.take i).flatMap enc++rest) (i * k) (enc l[i])=(l.take (i+1)).flatMap enc++rest'∧rest'.length=(l.length - (i+1)) * k:=by
 refine ⟨rest.drop k, ?_, ?_⟩
 ·have e1:((l.take i).flatMap enc).length=i * k:=by rw [fL enc k hk,List.length_take,Nat.min_eq_left (by omega)]
  unfold aU
  rw [List.take_append_of_le_length (by omega),List.take_of_length_le (by omega),List.drop_append,List.drop_eq_nil_of_le (by rw [e1,hk]; omega),e1,hk,List.nil_append]
  rw [List.take_succ_eq_append_getElem hi,List.flatMap_append,List.flatMap_cons,List.flatMap_nil,List.append_nil,Nat.add_sub_cancel_left]
 ·rw [List.length_drop,hr]
  obtain ⟨d,hd⟩ : ∃ d,l.length - i=d+1:=⟨l.length - i - 1,by omega⟩
  have hd' : l.length - (i+1)=d:=by omega
  rw [hd,hd',Nat.succ_mul,Nat.add_sub_cancel]
theorem gM {P:Program} {ops:Array Oper} {rest:List Oper} {op:Oper} {a:Act} {w:World} {Q:Exit→Act→World→Prop} (hgd:op.guard=none) (ty:TypeId) (x y:Operand) (ho:op.op=.store ty x y)
  {α:Type} (enc:α→List Value) (ksz:Nat) (hk:∀ x,(enc x).length=ksz) (l:List α) (k:Nat) (hlt:k < l.length) (old:List Value) (hold:Hid (old.length=(l.length - k) * ksz))
  (g:Nat) (t:TypeId) (vs:Array Value) (hx:a.eval x=.pointer (some ⟨g,k * ksz,none⟩)) (hy:a.eval y=.agg vs) (hv:Hid (vs.toList=enc l[k]))
  (hi:(P.info? ty).map (·.size)=some ksz) (h1:vs.all (·.oneCell')=true) (hl:ah w g t ((l.take k).flatMap enc++old))
  (h:∀ w' old',Hid (ah w' g t ((l.take (k+1)).flatMap enc++old'))→Hid (old'.length=(l.length - (k+1)) * ksz)→w.grownBy w' (some g)→wpList P ops Q rest (a.put op.dst undef) w'):wpList P ops Q (op :: rest) a w:=by
 have hv':=hv.out
 have hold':=hold.out
 have hsz:vs.size=ksz:=by have:=congrArg List.length hv'; simpa [hk] using this
 obtain ⟨old',he,hl'⟩:=oN enc ksz hk l k hlt old hold'
 refine kH hgd ty x y ho g (k * ksz) t vs hx hy _ hl ?_ (by rw [hi,hsz]) h1 fun w' h2 h3=>h w' old' ?_ hl' h3
 ·rw [hsz,List.length_append,fL enc ksz hk,List.length_take,Nat.min_eq_left (by omega),hold']
  have:l.length - k=l.length - k - 1+1:=by omega
  rw [this,Nat.succ_mul]; omega
 ·rw [hv',he] at h2; exact h2
theorem jZ {P:Program} (t e:TypeId) (z:Value) (size bytes:Nat) (ht:P.underlying t=some (.slice e)) (hinfo:(P.info? e).map (fun i=>(i.zero,i.size,i.bytes))=some (some z,size,bytes))
  (n:Nat) (hbytes:bytes * n≤140737488355328) (h63:n≤9223372036854775807) (w:World) :
  (Instr.makeSlice t (O U (n:Int)) (O U (n:Int))).run P w=.ok (F (some ⟨w.heap.size,0,none⟩) n n) (w.alloc (.cells (madeCells z.cells (n * size)) e)):=by
 obtain ⟨i,hi,hz,hs,hb⟩:=info_parts hinfo
 have hb' : (i.bytes:Int) * (n:Int)≤281474976710656:=by
  have h:((i.bytes * n:Nat):Int)≤281474976710656:=by rw [hb]; omega
  rwa [Int.natCast_mul] at h
 have hr:=run_make (P:=P) w t e i z ht hi hz .i64 .i64 n n (by omega) (by omega) hb' (by omega)
 simp only [Int.toNat_natCast] at hr
 rw [← hs]
 exact hr
theorem sA {α:Type _} (l:List α) (i:Nat) (a:α):l.toArray.setIfInBounds i a=(l.set i a).toArray:=by simp
theorem s0 {α:Type _} {x y:α} {l:List α}:(x::l).set 0 y=y::l:=List.set_cons_zero
theorem s1 {α:Type _} {x y:α} {l:List α} {n:Nat}:(x::l).set (n+1) y=x::l.set n y:=List.set_cons_succ
theorem bR {p:Prop} {B:Nat} {w:World} (_:p):Below B w w:=Below.refl _ _
theorem cells4 {w:World} {g:Nat} {t:TypeId} {a0 a1 a2 a3:Value} {r:List Value} (h:ah w g t (a0::a1::a2::a3::r)):w.cell? ⟨g,0,none⟩=some a0∧w.cell? ⟨g,1,none⟩=some a1∧w.cell? ⟨g,2,none⟩=some a2∧w.cell? ⟨g,3,none⟩=some a3:=⟨h.cell 0,h.cell 1,h.cell 2,h.cell 3⟩
theorem frz4 {w:World} {g:Nat} {t:TypeId} {cs:List Value} (h:ah w g t cs):w.frozen? ⟨g,0,none⟩=false∧w.frozen? ⟨g,1,none⟩=false∧w.frozen? ⟨g,2,none⟩=false∧w.frozen? ⟨g,3,none⟩=false:=⟨h.frozen 0,h.frozen 1,h.frozen 2,h.frozen 3⟩
theorem cells5 {w:World} {g:Nat} {t:TypeId} {a0 a1 a2 a3 a4:Value} {r:List Value} (h:ah w g t (a0::a1::a2::a3::a4::r)):w.cell? ⟨g,0,none⟩=some a0∧w.cell? ⟨g,1,none⟩=some a1∧w.cell? ⟨g,2,none⟩=some a2∧w.cell? ⟨g,3,none⟩=some a3∧w.cell? ⟨g,4,none⟩=some a4:=⟨h.cell 0,h.cell 1,h.cell 2,h.cell 3,h.cell 4⟩
theorem frz5 {w:World} {g:Nat} {t:TypeId} {cs:List Value} (h:ah w g t cs):w.frozen? ⟨g,0,none⟩=false∧w.frozen? ⟨g,1,none⟩=false∧w.frozen? ⟨g,2,none⟩=false∧w.frozen? ⟨g,3,none⟩=false∧w.frozen? ⟨g,4,none⟩=false:=⟨h.frozen 0,h.frozen 1,h.frozen 2,h.frozen 3,h.frozen 4⟩
theorem cells8 {w:World} {g:Nat} {t:TypeId} {a0 a1 a2 a3 a4 a5 a6 a7:Value} {r:List Value} (h:ah w g t (a0::a1::a2::a3::a4::a5::a6::a7::r)):w.cell? ⟨g,0,none⟩=some a0∧w.cell? ⟨g,1,none⟩=some a1∧w.cell? ⟨g,2,none⟩=some a2∧w.cell? ⟨g,3,none⟩=some a3∧w.cell? ⟨g,4,none⟩=some a4∧w.cell? ⟨g,5,none⟩=some a5∧w.cell? ⟨g,6,none⟩=some a6∧w.cell? ⟨g,7,none⟩=some a7:=⟨h.cell 0,h.cell 1,h.cell 2,h.cell 3,h.cell 4,h.cell 5,h.cell 6,h.cell 7⟩
theorem frz8 {w:World} {g:Nat} {t:TypeId} {cs:List Value} (h:ah w g t cs):w.frozen? ⟨g,0,none⟩=false∧w.frozen? ⟨g,1,none⟩=false∧w.frozen? ⟨g,2,none⟩=false∧w.frozen? ⟨g,3,none⟩=false∧w.frozen? ⟨g,4,none⟩=false∧w.frozen? ⟨g,5,none⟩=false∧w.frozen? ⟨g,6,none⟩=false∧w.frozen? ⟨g,7,none⟩=false:=⟨h.frozen 0,h.frozen 1,h.frozen 2,h.frozen 3,h.frozen 4,h.frozen 5,h.frozen 6,h.frozen 7⟩
def bU (n lo hi:Int):Bool:=decide (lo≤n) && decide (n≤hi)
theorem bL {n lo hi:Int} : bU n lo hi=true ↔ lo≤n∧n≤hi:=by simp [bU]
theorem aE (n lo hi:Int) (w:World):Calls Tryz.prog 134 #[O U n,O U lo,O U hi] w fun e w'=>e=.returned (.bool (bU n lo hi))∧w=w':=by
 go_enter Tryz.func134,Tryz.ntmps134
 go_wp2
 all_goals (go_ret; exact ⟨by simp [bU, *]; try omega,rfl⟩)
theorem aN (n lo hi:Int) (w:World):Calls Tryz.prog 75 #[O U n,O U lo,O U hi] w fun e w'=>e=.returned (.bool (bU n lo hi))∧w=w':=by
 go_enter Tryz.func75,Tryz.ntmps75
 go_wp2
 all_goals (go_ret; exact ⟨by simp [bU, *]; try omega,rfl⟩)
def bO (k:Int) (n:Nat):Int:=if (n:Int)≤k then k - n else -1
theorem rr {k:Int} {a b:Nat} (h:k < a):bO k (a+b) = -1:=by unfold bO; rw [if_neg (by omega)]
theorem pT {k:Int} {a b:Nat} (_h:(a:Int)≤k):bO k (a+b)=bO (k - a) b:=by
 unfold bO
 by_cases h:((a+b:Nat):Int)≤k
 ·rw [if_pos h,if_pos (by omega)]; omega
 ·rw [if_neg h,if_neg (by omega)]
abbrev bn (l:List Int):List Value:=l.map (Value.int .i64)
theorem np (l:List Int):(bn l).length=l.length * 1:=by simp
abbrev jA (w:World) (B:Nat) (A:Option Addr) (l:List Int):Prop:=aY w B 1 A l.length (bn l)
theorem jA.ints {w:World} {B:Nat} {A:Option Addr} {l:List Int} (h:jA w B A l) (hne:0 < l.length):∃ b off,A=some ⟨b,off,none⟩∧b < B∧∀ i (hi:i < l.length) (p:an B w),p.val.cell? ⟨b,off+i,none⟩=some (O U l[i]):=by
 obtain ⟨b,off,e,hb,hc⟩:=h.at_ hne
 exact ⟨b,off,e,hb,fun i hi p=>(p.cell hb).trans (hc i _ (by simp [hi]))⟩
def bM (w:World) (B:Nat) (t:TypeId) (k:Nat) (A:Option Addr) (n:Nat) (cs:List Value):Prop :=
 cs.length=n * k∧n≤9223372036854775807∧((A=none∧n=0) ∨ ∃ g rest,A=some ⟨g,0,none⟩∧B≤g∧ah w g t (cs++rest))
theorem bM.of {w:World} {B:Nat} {t:TypeId} {k:Nat} {A:Option Addr} {n c:Nat} {cs:List Value} (h:w.ownsRow B t k (F A n c) n cs):bM w B t k A n cs:=by
 obtain ⟨hl,h | ⟨g,cap,cur,hv,hg,hh,h1,h2,h3,h4⟩⟩:=h
 ·injection h.1 with e1 e2 e3
  exact ⟨hl,by omega,.inl ⟨e1,e2⟩⟩
 ·injection hv with e1 e2 e3
  refine ⟨hl,by unfold maxLen at h2; omega,.inr ⟨g,cur.toList.drop (n * k),e1,hg, ?_⟩⟩
  have:cs++cur.toList.drop (n * k)=cur.toList:=by rw [← h4]; exact List.take_append_drop _ _
  rw [this]
  exact ah.of hh
theorem bM.reads {w:World} {B:Nat} {t:TypeId} {k:Nat} {A:Option Addr} {n:Nat} {cs:List Value} (h:bM w B t k A n cs):aY w w.heap.size k A n cs:=by
 obtain ⟨hl,hn,⟨_,h0⟩ | ⟨g,rest,hA,hg,hh⟩⟩:=h
 ·exact ⟨hl,hn,fun h=>by omega⟩
 ·exact ⟨hl,hn,fun _=>⟨g,0,hA,hh.lt,fun j u hu=>by
   rw [Nat.zero_add,hh.cell,List.getElem?_append_left (List.getElem?_eq_some_iff.1 hu).1]; exact hu⟩⟩
theorem bM.kept {w w' : World} {B:Nat} {t:TypeId} {k:Nat} {A:Option Addr} {n:Nat} {cs:List Value} (h:bM w B t k A n cs) {g:Nat} (hg:w.grownBy w' (some g)) (hlt:g < B):bM w' B t k A n cs:=by
 obtain ⟨hl,hn,h0 | ⟨g',rest,hA,hg',hh⟩⟩:=h
 ·exact ⟨hl,hn,.inl h0⟩
 ·exact ⟨hl,hn,.inr ⟨g',rest,hA,hg',hh.kept hg (by intro e; injection e with e; omega)⟩⟩
theorem bM.then {w w' : World} {B:Nat} {t:TypeId} {k:Nat} {A:Option Addr} {n:Nat} {cs:List Value} (h:bM w B t k A n cs) (hb:Below w.heap.size w w'):bM w' B t k A n cs:=by
 obtain ⟨hl,hn,h0 | ⟨g',rest,hA,hg',hh⟩⟩:=h
 ·exact ⟨hl,hn,.inl h0⟩
 ·exact ⟨hl,hn,.inr ⟨g',rest,hA,hg',hh.below hb hh.lt⟩⟩
def ramp:Int→Nat→List Int
 | _,0=>[]
 | k,n+1=>k :: ramp (k+1) n
theorem gl:∀ (k:Int) (n:Nat),(ramp k n).length=n
 | _,0=>rfl
 | k,n+1=>by simp [ramp,gl (k+1) n]
theorem kI:∀ (k:Int) (n:Nat),ramp k (n+1)=ramp k n++[k+n]
 | k,0=>by simp [ramp]
 | k,n+1=>by
  rw [ramp,kI (k+1) n,ramp,List.cons_append]
  congr 3
  omega
theorem iA {a w:World} {row:Option Nat} (h:a.grownBy w row) (p:Addr) (hlt:p.block < a.heap.size) (hne:some p.block ≠ row):w.cell? p=a.cell? p:=World.cell?_of_block (w:=a) (h.block p.block hlt hne)
theorem bM.held {w:World} {B:Nat} {t:TypeId} {A:Option Addr} {k0:Int} {n:Nat} (h:bM w B t 1 A n (bn (ramp k0 n))):jA w w.heap.size A (Go.Proofs.YtoeoimhemojdeaaGreatDoor.ramp k0 n):=by
 have:=h.reads
 unfold jA; rw [gl]; exact this
theorem ab {a w:World} {g i:Nat} {u:Value} (h:a.grownBy w (some g)):a.grownBy (w.setCell ⟨g,i,none⟩ u) (some g) :=
 ⟨h.os,h.tape,h.output,by simpa [World.setCell] using h.size,fun k hk hne=>(Below.heap_setCell w ⟨g,i,none⟩ u k (fun e=>hne (by rw [e]))).trans (h.block k hk hne)⟩
structure mh (lo hi:Nat) (w w' : World):Prop where
 os:w'.os=w.os
 tape:w'.tape=w.tape
 output:w'.output=w.output
 size:w.heap.size≤w'.heap.size
 block:∀ k,k < w.heap.size→(k < lo ∨ hi≤k)→w'.heap[k]?=w.heap[k]?
theorem mh.refl (lo hi:Nat) (w:World):mh lo hi w w:=⟨rfl,rfl,rfl,Nat.le_refl _,fun _ _ _=>rfl⟩
theorem mh.trans {lo hi:Nat} {a b c:World} (h:mh lo hi a b) (k:mh lo hi b c):mh lo hi a c :=
 ⟨k.os.trans h.os,k.tape.trans h.tape,k.output.trans h.output,Nat.le_trans h.size k.size,fun i hi ho=>(k.block i (Nat.lt_of_lt_of_le hi h.size) ho).trans (h.block i hi ho)⟩
theorem mh.of {lo hi:Nat} {a b:World} {row:Option Nat} (h:a.grownBy b row) (hr:∀ g,row=some g→lo≤g∧g < hi):mh lo hi a b :=
 ⟨h.os,h.tape,h.output,h.size,fun k hk ho=>h.block k hk (fun e=>by have:=hr k e.symm; omega)⟩
theorem mh.below {lo hi:Nat} {a b:World} (h:mh lo hi a b) (hlo:lo≤a.heap.size):Below lo a b :=
 ⟨h.os,h.tape,h.output,h.size,fun k hk=>h.block k (by omega) (.inl hk)⟩
theorem mh.lies {lo hi:Nat} {a b:World} (h:mh lo hi a b) {g:Nat} {t:TypeId} {cs:List Value} (hL:ah a g t cs) (ho:g < lo ∨ hi≤g):ah b g t cs:=(h.block g hL.lt ho).trans hL
theorem mh.own {lo hi:Nat} {a b:World} (h:mh lo hi a b) {B:Nat} {t:TypeId} {k:Nat} {A:Option Addr} {n:Nat} {cs:List Value} (hO:bM a B t k A n cs) (hB:hi≤B):bM b B t k A n cs:=by
 obtain ⟨hl,hn,h0 | ⟨g',rest,hA,hg',hh⟩⟩:=hO
 ·exact ⟨hl,hn,.inl h0⟩
 ·exact ⟨hl,hn,.inr ⟨g',rest,hA,hg',h.lies hh (.inr (by omega))⟩⟩
theorem ic {α:Type} {a r:List α} {n:Nat} (h:a.length=n) (i:Nat):(a++r)[n+i]?=r[i]?:=by
 rw [List.getElem?_append_right (by omega),h,Nat.add_sub_cancel_left]
theorem gm {α:Type} {a r:List α} {n:Nat} (h:a.length=n) (i:Nat) (u:α):(a++r).set (n+i) u=a++r.set i u:=by
 subst h; rw [List.set_append_right _ _ (by omega),Nat.add_sub_cancel_left]
theorem tC {α:Type} {l:List α} (h:2≤l.length):∃ a0 a1 r,l=a0 :: a1 :: r:=by
 match l,h with
 | a0 :: a1 :: r,_=>exact ⟨a0,a1,r,rfl⟩
theorem tD {α:Type} {l:List α} (h:3≤l.length):∃ a0 a1 a2 r,l=a0 :: a1 :: a2 :: r:=by
 match l,h with
 | a0 :: a1 :: a2 :: r,_=>exact ⟨a0,a1,a2,r,rfl⟩
def bi {α:Type} (f:α→Bool):Nat→List α→Int
 | _,[]=>-1
 | k,x :: l=>if f x then k else bi f (k+1) l
theorem lu {α:Type} (f:α→Bool):∀ (l:List α) (k:Nat),decide (0≤bi f k l)=l.any f
 | [],_=>rfl
 | x :: l,k=>by
  rw [bi,List.any_cons,← lu f l (k+1)]
  cases f x <;> simp
theorem qN {α:Type} {f:α→Bool} {l:List α} {k:Nat} (h:k < l.length) (hf:f l[k]=true):bi f k (l.drop k)=k:=by
 rw [List.drop_eq_getElem_cons h,bi,hf]; rfl
theorem sJ {α:Type} {f:α→Bool} {l:List α} {k:Nat} (h:k < l.length) (hf:f l[k]=false):bi f k (l.drop k)=bi f (k+1) (l.drop (k+1)):=by
 rw [List.drop_eq_getElem_cons h,bi,hf]; rfl
structure ap where
 k:Int
 c:Int
 deriving DecidableEq,Inhabited
def ap.enc (r:ap):List Value:=[O U r.k,O U r.c]
abbrev ap.val (r:ap):Value:=.agg #[O U r.k,O U r.c]
theorem ap.enc_len (r:ap):r.enc.length=2:=rfl
theorem ap.of_ints_enc (ns:List Int) (h:ns.length=2):∃ r:ap,ns.map (Value.int .i64)=r.enc:=by
 match ns,h with
 | [v0,v1],_=>exact ⟨⟨v0,v1⟩,rfl⟩
structure lv (B:Nat) (w:World) (b o:Nat) (r:ap):Prop where
 c0:∀ p:an B w,p.val.cell? ⟨b,o,none⟩=some (O U r.k)
 c1:∀ p:an B w,p.val.cell? ⟨b,o+1,none⟩=some (O U r.c)
theorem lv.up {B B' : Nat} {w W:World} {b o:Nat} {r:ap} (h:lv B w b o r) (hb:Below B w W) (hB:B≤B'):lv B' W b o r :=
 ⟨fun p=>h.c0 ⟨p.val,hb.trans (p.below.mono hB)⟩,fun p=>h.c1 ⟨p.val,hb.trans (p.below.mono hB)⟩⟩
theorem lv.of {W:World} {g:Nat} {t:TypeId} {r:ap} (h:ah W g t r.enc):lv W.heap.size W g 0 r :=
 ⟨fun p=>(p.cell h.lt).trans (h.cell 0),fun p=>(p.cell h.lt).trans (h.cell 1)⟩
abbrev fk (w:World) (B:Nat) (A:Option Addr) (l:List ap):Prop:=aY w B 2 A l.length (l.flatMap ap.enc)
theorem fk.el {w:World} {B:Nat} {A:Option Addr} {l:List ap} (h:fk w B A l) (hne:0 < l.length):∃ b off,A=some ⟨b,off,none⟩∧b < B∧∀ i (hi:i < l.length),lv B w b (off+i * 2) l[i]:=by
 obtain ⟨b,off,e,hb,hc⟩:=h.at_ hne
 refine ⟨b,off,e,hb,fun i hi=>?_⟩
 have key:∀ j,j < 2→∀ u,(l[i].enc)[j]?=some u→∀ p:an B w,p.val.cell? ⟨b,off+i * 2+j,none⟩=some u:=fun j hj u hu p=>by
  rw [p.cell hb,Nat.add_assoc]
  exact hc _ u (by rw [jj ap.enc 2 ap.enc_len l i hi j hj]; exact hu)
 exact ⟨key 0 (by omega) _ rfl,key 1 (by omega) _ rfl⟩
theorem pU {W:World} {g:Nat} {t:TypeId} {l:List ap} (h:ah W g t (l.flatMap ap.enc)) (hn:l.length≤9223372036854775807):fk W W.heap.size (some ⟨g,0,none⟩) l :=
 ah.reads h (fL ap.enc 2 ap.enc_len l) hn
theorem dw:(Tryz.prog.info? 104).map (fun i=>(i.zero,i.size,i.bytes))=some (some (.agg #[O U 0,O U 0]),2,16):=by kernel_rfl
theorem pV (r:ap) (w:World):Calls Tryz.prog 145 #[r.val] w fun e w'=>e=.returned r.val∧Below w.heap.size w w':=by
 go_enter Tryz.func145,Tryz.ntmps145
 go_wp2
 refine bodyPost_ret (v:=r.val) (by simp [results,Tryz.results145,go_sem]) rfl ⟨rfl, ?_⟩
 go_grown
theorem pW (r r' : ap) (w:World):Calls Tryz.prog 159 #[r.val,r'.val] w fun e w'=>e=.returned (.bool (decide (r=r')))∧Below w.heap.size w w':=by
 obtain ⟨v0,v1⟩:=r
 obtain ⟨u0,u1⟩:=r'
 go_enter Tryz.func159,Tryz.ntmps159
 go_wp2
 all_goals (go_ret; refine ⟨by simp_all, ?_⟩; go_grown)
theorem oO (A:Option Addr) (n c:Nat) (k:Int) (w:World) (hn:n≤9223372036854775807) (_hk:0≤k) (_hk' : k≤1048576) :
  Calls Tryz.prog 79 #[F A n c,O U k] w fun e w'=>e=.returned (O U (bO k n))∧w=w':=by
 go_enter Tryz.func79,Tryz.ntmps79
 go_wp2
 all_goals (go_ret; refine ⟨?_,rfl⟩; unfold bO; first | (rw [if_neg (by omega)]; rfl) | (rw [if_pos (by omega)]; rfl))
set_option maxHeartbeats 1000000 in
theorem oP (A:Option Addr) (c:Nat) (l:List ap) (w:World) (h:fk w w.heap.size A l) (hn:l.length≤1048576) :
  Calls Tryz.prog 91 #[F A l.length c] w fun e w'=>∃ g,e=.returned (F (some ⟨g,0,none⟩) l.length l.length)∧w.heap.size≤g∧ah w' g 104 (l.flatMap ap.enc)∧Below w.heap.size w w':=by
 have hmk:=fun W=>jZ (P:=Tryz.prog) 37 104 _ 2 16 Tryz.underlying37 dw l.length (by omega) (by omega) W
 have hrd:=h.el
 go_enter Tryz.func91,Tryz.ntmps91
 go_wp2
 go_loopw [4] (fun i wr=>∃ (k:Nat) (rest:List Value),k≤l.length∧i=O U k∧Below w.heap.size w wr∧ah wr w.heap.size 104 ((l.take k).flatMap ap.enc++rest)∧rest.length=(l.length - k) * 2) (fun i _=>l.length - (intOf i).toNat)
 case atStart =>
  refine ⟨0,_,Nat.zero_le _,rfl,(Below.refl _ _).alloc (Nat.le_refl _) _,by simpa using ah.new w _ _,by simp [size_madeCells]⟩
 case round =>
  obtain ⟨k,rest,hk,rfl,hbel,hl,hlen⟩:=hrel
  by_cases hlt:k < l.length
  ·obtain ⟨b,off,rfl,hb,hcell⟩:=hrd (by omega)
   have HL:=Lib.hid hl; clear hl
   have HN:=Lib.hid hlen; clear hlen
   obtain ⟨x,hxe⟩ : ∃ x,x=l[k]:=⟨_,rfl⟩
   obtain ⟨c0,c1⟩:=hcell k hlt
   obtain ⟨q,rfl⟩ : ∃ q:an w.heap.size w,wr=q.val:=⟨⟨wr,hbel⟩,rfl⟩
   rw [← hxe] at c0 c1
   have HX:=Lib.hid hxe; clear hxe
   clear hcell hrd hbel
   go_wp2_with (first
    | (go_at_call 145; refine (pV x _).mono ?_; rintro e w1 ⟨rfl,hb1⟩)
    | (with_reducible refine gM (op:=⟨none,.store 104 (.tmp 21) (.tmp 20),_,_,_,_⟩) rfl _ _ _ rfl ap.enc 2 ap.enc_len l k hlt rest HN w.heap.size 104 x.enc.toArray ?c1 ?c2 ?c3 ?c4 ?c5 ?c6 ?_; rotate_right; intro w2 old2 hl2 hn2 hg2))
   case c1=>rfl
   case c2=>rfl
   case c3=>rw [HX.out]; rfl
   case c4=>kernel_rfl
   case c5=>simp [ap.enc,Value.oneCell']
   case c6=>exact HL.out.below hb1 HL.out.lt
   go_wp2
   go_roundw
   case rel=>exact ⟨k+1,old2,by omega,by go_num,(q.below.trans (hb1.mono q.size)).grown hg2 (Nat.le_trans q.size hb1.size) (by rintro _ ⟨⟩; exact Nat.le_refl _),hl2,hn2⟩
   case measure=>simp [intOf]; omega
  ·have hk' : k=l.length:=by omega
   subst hk'
   go_wp2
   go_ret
   refine ⟨w.heap.size,rfl,Nat.le_refl _, ?_,hbel⟩
   have h0:rest = []:=List.eq_nil_of_length_eq_zero (by omega)
   rw [h0,List.take_of_length_le (Nat.le_refl _),List.append_nil] at hl
   exact hl
def dd (a b:List ap):Bool:=decide (a=b)
def co:List ap→List ap→Bool
 | [],[]=>true
 | x :: a,y :: b=>decide (x=y) && co a b
 | _,_=>false
theorem iP:∀ a b:List ap,co a b=dd a b
 | [],[]=>by simp [co,dd]
 | [],_ :: _=>by simp [co,dd]
 | _ :: _,[]=>by simp [co,dd]
 | x :: a,y :: b=>by simp [co,dd,iP a b,Bool.decide_and]
set_option maxHeartbeats 1000000 in
theorem oQ (A B:Option Addr) (c d:Nat) (l m:List ap) (w:World) (hA:fk w w.heap.size A l) (hB:fk w w.heap.size B m) :
  Calls Tryz.prog 101 #[F A l.length c,F B m.length d] w fun e w'=>e=.returned (.bool (dd l m))∧Below w.heap.size w w':=by
 have hlA:=hA.big
 have hlB:=hB.big
 have hrA:=hA.el
 have hrB:=hB.el
 by_cases hne:l.length=m.length
 ·have hF:Hid (co l m=dd l m):=iP l m
  have hbn:((l.length:Int) != (m.length:Int))=false:=by simp [hne]
  have HE:=Lib.hid hne; clear hne
  go_enter Tryz.func101,Tryz.ntmps101
  go_wp2
  go_loopw [5] (fun i wr=>∃ k:Nat,k≤l.length∧i=O U k∧(∃ q:an w.heap.size w,wr=q.val)∧Hid (co (l.drop k) (m.drop k)=dd l m)) (fun i _=>l.length - (intOf i).toNat)
  case atStart=>exact ⟨0,Nat.zero_le _,rfl,⟨an.start _ _,rfl⟩,hF⟩
  case round =>
   obtain ⟨k,hk,rfl,⟨q,rfl⟩,HR⟩:=hrel
   by_cases hlt:k < l.length
   ·have hlt' : k < m.length:=by have:=HE.out; omega
    obtain ⟨b,off,rfl,hb,hcell⟩:=hrA (by omega)
    obtain ⟨b',off',rfl,hb',hcell'⟩:=hrB (by omega)
    obtain ⟨c0,c1⟩:=hcell k hlt
    obtain ⟨d0,d1⟩:=hcell' k hlt'
    obtain ⟨x,hxe⟩ : ∃ x,x=l[k]:=⟨_,rfl⟩
    obtain ⟨y,hye⟩ : ∃ x,x=m[k]:=⟨_,rfl⟩
    rw [← hxe] at c0 c1
    rw [← hye] at d0 d1
    have HX:=Lib.hid hxe; clear hxe
    have HY:=Lib.hid hye; clear hye
    clear hcell hcell' hrA hrB
    have hstep:Hid (co (l.drop k) (m.drop k)=(decide (x=y) && co (l.drop (k+1)) (m.drop (k+1)))):=by
     rw [List.drop_eq_getElem_cons hlt,List.drop_eq_getElem_cons hlt',HX.out,HY.out]; rfl
    obtain ⟨v,hv⟩ : ∃ v,decide (x=y)=v:=⟨_,rfl⟩
    have HV:=Lib.hid hv; clear hv
    cases v
    all_goals
     go_wp2
     refine bf _ (by kernel_rfl) (by kernel_rfl) ?_
     repeat (any_goals (first | go_big_quiet_step ((go_at_call 159; refine jY HV (Nat.le_refl _) (pW x y _))) | (refine wpQuiet_step (fun K hK=>?_); go_simp; split <;> (refine hK _ ?_; clear hK K))))
     all_goals (refine wpQuiet_nil ?_; rintro _ ⟨q1,rfl⟩)
     all_goals go_wp2
    ·go_ret
     refine ⟨?_,q1.below⟩
     rw [← HR.out,hstep.out,HV.out]; rfl
    ·go_roundw
     case rel=>exact ⟨k+1,by omega,by go_num,⟨q1,rfl⟩,by have h1:=HR.out; rw [hstep.out,HV.out] at h1; exact h1⟩
     case measure=>simp [intOf]; omega
   ·have hk' : k=l.length:=by omega
    go_wp2
    go_ret
    refine ⟨?_,q.below⟩
    rw [← HR.out,List.drop_eq_nil_of_le (by omega),List.drop_eq_nil_of_le (by have:=HE.out; omega)]; rfl
 ·have hbn:((l.length:Int) != (m.length:Int))=true:=by rw [bne_iff_ne]; omega
  have hF:Hid (dd l m=false):=by
   unfold dd; rw [decide_eq_false_iff_not]; intro h; exact hne (by rw [h])
  go_enter Tryz.func101,Tryz.ntmps101
  go_wp2
  go_ret
  exact ⟨by rw [hF.out]; rfl,Below.refl _ _⟩
set_option maxHeartbeats 1000000 in
theorem fF (A:Option Addr) (c n B:Nat) (k0:Int) (cs:List Value) (w:World) (hk : -1000000000≤k0) (hk' : k0≤1000000000) (hn:n≤100000000) (h:bM w B 104 2 A n cs) :
  Calls Tryz.prog 103 #[F A n c,O U k0] w fun e w'=>e=.returned (O U (k0+2 * n))∧bM w' B 104 2 A n (bn (ramp k0 (n * 2)))∧w.grownBy w' (A.map (·.block)):=by
 obtain ⟨hl,hn',h0 | ⟨g,rest,rfl,hg,hh⟩⟩:=h
 ·obtain ⟨rfl,rfl⟩:=h0
  go_enter Tryz.func103,Tryz.ntmps103
  go_wp2
  refine wp_loop_rounds 1 ?_
  rw [rounds_succ]
  go_wp2
  go_ret
  exact ⟨by simp,⟨by simp [ramp],by omega,.inl ⟨rfl,rfl⟩⟩,World.grownBy.refl w _⟩
 ·have HF:Hid (ah w g 104 (bn (ramp k0 (0 * 2))++(cs++rest))∧n * 2≤(cs++rest).length):=⟨by simpa [ramp] using hh,by simp; omega⟩
  clear hh hl
  go_enter Tryz.func103,Tryz.ntmps103
  go_wp2
  go_loopw [1,5] (fun kk i wr=>∃ (j:Nat) (more:List Value),j≤n∧i=O U j∧kk=O U (k0+2 * j)∧Hid (ah wr g 104 (bn (ramp k0 (j * 2))++more)∧n * 2≤j * 2+more.length)∧w.grownBy wr (some g)) (fun _ i _=>n - (intOf i).toNat)
  case atStart=>exact ⟨0,cs++rest,Nat.zero_le _,rfl,congrArg _ (by simp),⟨HF.out.1,by have:=HF.out.2; omega⟩,World.grownBy.refl w _⟩
  case round =>
   obtain ⟨j,more,hj,rfl,rfl,HR,hgr⟩:=hrel
   by_cases hlt:j < n
   ·obtain ⟨u0,u1,more',rfl⟩ : ∃ u0 u1 more',more=u0 :: u1 :: more':=by
     have h2:=HR.out.2
     have hle:2≤more.length:=by omega
     clear HR HF
     exact tC hle
    have HE:Hid ((bn (ramp k0 (j * 2))).length=j * 2):=by unfold Hid bn; rw [List.length_map,gl]
    have c0:wr.cell? ⟨g,j * 2,none⟩=some u0:=(HR.out.1.cell _).trans (ic HE.out 0)
    have f0:wr.frozen? ⟨g,j * 2,none⟩=false:=HR.out.1.frozen _
    have c1:wr.cell? ⟨g,j * 2+1,none⟩=some u1:=(HR.out.1.cell _).trans (ic HE.out 1)
    have f1:wr.frozen? ⟨g,j * 2+1,none⟩=false:=HR.out.1.frozen _
    go_wp2
    go_roundw
    case rel =>
     refine ⟨j+1,more',by omega,by go_num,congrArg _ (by omega),⟨?_,by have:=HR.out.2; simp only [List.length_cons] at this; omega⟩,ab (ab (hgr))⟩
     have h1:=HR.out.1
     have h1:=h1.set (j * 2) (O U (k0+2 * (j:Int)))
     have e0:=fun r u=>gm (r:=r) HE.out 0 (u:Value)
     rw [Nat.add_zero] at e0
     rw [e0] at h1
     have h1:=h1.set (j * 2+1) (O U (k0+2 * (j:Int)+1))
     rw [gm HE.out 1] at h1
     have e:ramp k0 ((j+1) * 2)=ramp k0 (j * 2)++[k0+2 * (j:Int),k0+2 * (j:Int)+1]:=by
      rw [show (j+1) * 2=j * 2+2 by omega]
      simp only [kI,List.append_assoc,List.cons_append,List.nil_append]
      simp
      omega
     rw [e]
     unfold bn at h1 ⊢
     rw [List.map_append,List.append_assoc]
     exact h1
    case measure=>simp [intOf]; omega
   ·have HJ:Hid (j=n):=by unfold Hid; omega
    go_wp2
    go_ret
    refine ⟨by rw [← HJ.out]; rfl,⟨by rw [np,gl,Nat.mul_one],hn',.inr ⟨g,more,rfl,hg,by rw [← HJ.out]; exact HR.out.1⟩⟩,hgr⟩
structure ae where
 k:Int
 p:Int
 c:Int
 deriving DecidableEq,Inhabited
def ae.enc (r:ae):List Value:=[O U r.k,O U r.p,O U r.c]
abbrev ae.val (r:ae):Value:=.agg #[O U r.k,O U r.p,O U r.c]
theorem ae.enc_len (r:ae):r.enc.length=3:=rfl
theorem ae.of_ints_enc (ns:List Int) (h:ns.length=3):∃ r:ae,ns.map (Value.int .i64)=r.enc:=by
 match ns,h with
 | [v0,v1,v2],_=>exact ⟨⟨v0,v1,v2⟩,rfl⟩
structure fl (B:Nat) (w:World) (b o:Nat) (r:ae):Prop where
 c0:∀ p:an B w,p.val.cell? ⟨b,o,none⟩=some (O U r.k)
 c1:∀ p:an B w,p.val.cell? ⟨b,o+1,none⟩=some (O U r.p)
 c2:∀ p:an B w,p.val.cell? ⟨b,o+2,none⟩=some (O U r.c)
theorem fl.up {B B' : Nat} {w W:World} {b o:Nat} {r:ae} (h:fl B w b o r) (hb:Below B w W) (hB:B≤B'):fl B' W b o r :=
 ⟨fun p=>h.c0 ⟨p.val,hb.trans (p.below.mono hB)⟩,fun p=>h.c1 ⟨p.val,hb.trans (p.below.mono hB)⟩,fun p=>h.c2 ⟨p.val,hb.trans (p.below.mono hB)⟩⟩
theorem fl.of {W:World} {g:Nat} {t:TypeId} {r:ae} (h:ah W g t r.enc):fl W.heap.size W g 0 r :=
 ⟨fun p=>(p.cell h.lt).trans (h.cell 0),fun p=>(p.cell h.lt).trans (h.cell 1),fun p=>(p.cell h.lt).trans (h.cell 2)⟩
abbrev dS (w:World) (B:Nat) (A:Option Addr) (l:List ae):Prop:=aY w B 3 A l.length (l.flatMap ae.enc)
theorem dS.el {w:World} {B:Nat} {A:Option Addr} {l:List ae} (h:dS w B A l) (hne:0 < l.length):∃ b off,A=some ⟨b,off,none⟩∧b < B∧∀ i (hi:i < l.length),fl B w b (off+i * 3) l[i]:=by
 obtain ⟨b,off,e,hb,hc⟩:=h.at_ hne
 refine ⟨b,off,e,hb,fun i hi=>?_⟩
 have key:∀ j,j < 3→∀ u,(l[i].enc)[j]?=some u→∀ p:an B w,p.val.cell? ⟨b,off+i * 3+j,none⟩=some u:=fun j hj u hu p=>by
  rw [p.cell hb,Nat.add_assoc]
  exact hc _ u (by rw [jj ae.enc 3 ae.enc_len l i hi j hj]; exact hu)
 exact ⟨key 0 (by omega) _ rfl,key 1 (by omega) _ rfl,key 2 (by omega) _ rfl⟩
theorem nM {W:World} {g:Nat} {t:TypeId} {l:List ae} (h:ah W g t (l.flatMap ae.enc)) (hn:l.length≤9223372036854775807):dS W W.heap.size (some ⟨g,0,none⟩) l :=
 ah.reads h (fL ae.enc 3 ae.enc_len l) hn
theorem dM:(Tryz.prog.info? 147).map (fun i=>(i.zero,i.size,i.bytes))=some (some (.agg #[O U 0,O U 0,O U 0]),3,24):=by kernel_rfl
theorem nN (r:ae) (w:World):Calls Tryz.prog 146 #[r.val] w fun e w'=>e=.returned r.val∧Below w.heap.size w w':=by
 go_enter Tryz.func146,Tryz.ntmps146
 go_wp2
 refine bodyPost_ret (v:=r.val) (by simp [results,Tryz.results146,go_sem]) rfl ⟨rfl, ?_⟩
 go_grown
theorem nO (r r' : ae) (w:World):Calls Tryz.prog 160 #[r.val,r'.val] w fun e w'=>e=.returned (.bool (decide (r=r')))∧Below w.heap.size w w':=by
 obtain ⟨v0,v1,v2⟩:=r
 obtain ⟨u0,u1,u2⟩:=r'
 go_enter Tryz.func160,Tryz.ntmps160
 go_wp2
 all_goals (go_ret; refine ⟨by simp_all, ?_⟩; go_grown)
theorem mW (A:Option Addr) (n c:Nat) (k:Int) (w:World) (hn:n≤9223372036854775807) (_hk:0≤k) (_hk' : k≤1048576) :
  Calls Tryz.prog 80 #[F A n c,O U k] w fun e w'=>e=.returned (O U (bO k n))∧w=w':=by
 go_enter Tryz.func80,Tryz.ntmps80
 go_wp2
 all_goals (go_ret; refine ⟨?_,rfl⟩; unfold bO; first | (rw [if_neg (by omega)]; rfl) | (rw [if_pos (by omega)]; rfl))
set_option maxHeartbeats 1000000 in
theorem mX (A:Option Addr) (c:Nat) (l:List ae) (w:World) (h:dS w w.heap.size A l) (hn:l.length≤1048576) :
  Calls Tryz.prog 92 #[F A l.length c] w fun e w'=>∃ g,e=.returned (F (some ⟨g,0,none⟩) l.length l.length)∧w.heap.size≤g∧ah w' g 147 (l.flatMap ae.enc)∧Below w.heap.size w w':=by
 have hmk:=fun W=>jZ (P:=Tryz.prog) 38 147 _ 3 24 Tryz.underlying38 dM l.length (by omega) (by omega) W
 have hrd:=h.el
 go_enter Tryz.func92,Tryz.ntmps92
 go_wp2
 go_loopw [4] (fun i wr=>∃ (k:Nat) (rest:List Value),k≤l.length∧i=O U k∧Below w.heap.size w wr∧ah wr w.heap.size 147 ((l.take k).flatMap ae.enc++rest)∧rest.length=(l.length - k) * 3) (fun i _=>l.length - (intOf i).toNat)
 case atStart =>
  refine ⟨0,_,Nat.zero_le _,rfl,(Below.refl _ _).alloc (Nat.le_refl _) _,by simpa using ah.new w _ _,by simp [size_madeCells]⟩
 case round =>
  obtain ⟨k,rest,hk,rfl,hbel,hl,hlen⟩:=hrel
  by_cases hlt:k < l.length
  ·obtain ⟨b,off,rfl,hb,hcell⟩:=hrd (by omega)
   have HL:=Lib.hid hl; clear hl
   have HN:=Lib.hid hlen; clear hlen
   obtain ⟨x,hxe⟩ : ∃ x,x=l[k]:=⟨_,rfl⟩
   obtain ⟨c0,c1,c2⟩:=hcell k hlt
   obtain ⟨q,rfl⟩ : ∃ q:an w.heap.size w,wr=q.val:=⟨⟨wr,hbel⟩,rfl⟩
   rw [← hxe] at c0 c1 c2
   have HX:=Lib.hid hxe; clear hxe
   clear hcell hrd hbel
   go_wp2_with (first
    | (go_at_call 146; refine (nN x _).mono ?_; rintro e w1 ⟨rfl,hb1⟩)
    | (with_reducible refine gM (op:=⟨none,.store 147 (.tmp 21) (.tmp 20),_,_,_,_⟩) rfl _ _ _ rfl ae.enc 3 ae.enc_len l k hlt rest HN w.heap.size 147 x.enc.toArray ?c1 ?c2 ?c3 ?c4 ?c5 ?c6 ?_; rotate_right; intro w2 old2 hl2 hn2 hg2))
   case c1=>rfl
   case c2=>rfl
   case c3=>rw [HX.out]; rfl
   case c4=>kernel_rfl
   case c5=>simp [ae.enc,Value.oneCell']
   case c6=>exact HL.out.below hb1 HL.out.lt
   go_wp2
   go_roundw
   case rel=>exact ⟨k+1,old2,by omega,by go_num,(q.below.trans (hb1.mono q.size)).grown hg2 (Nat.le_trans q.size hb1.size) (by rintro _ ⟨⟩; exact Nat.le_refl _),hl2,hn2⟩
   case measure=>simp [intOf]; omega
  ·have hk' : k=l.length:=by omega
   subst hk'
   go_wp2
   go_ret
   refine ⟨w.heap.size,rfl,Nat.le_refl _, ?_,hbel⟩
   have h0:rest = []:=List.eq_nil_of_length_eq_zero (by omega)
   rw [h0,List.take_of_length_le (Nat.le_refl _),List.append_nil] at hl
   exact hl
def bW (a b:List ae):Bool:=decide (a=b)
def bQ:List ae→List ae→Bool
 | [],[]=>true
 | x :: a,y :: b=>decide (x=y) && bQ a b
 | _,_=>false
theorem gP:∀ a b:List ae,bQ a b=bW a b
 | [],[]=>by simp [bQ,bW]
 | [],_ :: _=>by simp [bQ,bW]
 | _ :: _,[]=>by simp [bQ,bW]
 | x :: a,y :: b=>by simp [bQ,bW,gP a b,Bool.decide_and]
set_option maxHeartbeats 1000000 in
theorem mY (A B:Option Addr) (c d:Nat) (l m:List ae) (w:World) (hA:dS w w.heap.size A l) (hB:dS w w.heap.size B m) :
  Calls Tryz.prog 102 #[F A l.length c,F B m.length d] w fun e w'=>e=.returned (.bool (bW l m))∧Below w.heap.size w w':=by
 have hlA:=hA.big
 have hlB:=hB.big
 have hrA:=hA.el
 have hrB:=hB.el
 by_cases hne:l.length=m.length
 ·have hF:Hid (bQ l m=bW l m):=gP l m
  have hbn:((l.length:Int) != (m.length:Int))=false:=by simp [hne]
  have HE:=Lib.hid hne; clear hne
  go_enter Tryz.func102,Tryz.ntmps102
  go_wp2
  go_loopw [5] (fun i wr=>∃ k:Nat,k≤l.length∧i=O U k∧(∃ q:an w.heap.size w,wr=q.val)∧Hid (bQ (l.drop k) (m.drop k)=bW l m)) (fun i _=>l.length - (intOf i).toNat)
  case atStart=>exact ⟨0,Nat.zero_le _,rfl,⟨an.start _ _,rfl⟩,hF⟩
  case round =>
   obtain ⟨k,hk,rfl,⟨q,rfl⟩,HR⟩:=hrel
   by_cases hlt:k < l.length
   ·have hlt' : k < m.length:=by have:=HE.out; omega
    obtain ⟨b,off,rfl,hb,hcell⟩:=hrA (by omega)
    obtain ⟨b',off',rfl,hb',hcell'⟩:=hrB (by omega)
    obtain ⟨c0,c1,c2⟩:=hcell k hlt
    obtain ⟨d0,d1,d2⟩:=hcell' k hlt'
    obtain ⟨x,hxe⟩ : ∃ x,x=l[k]:=⟨_,rfl⟩
    obtain ⟨y,hye⟩ : ∃ x,x=m[k]:=⟨_,rfl⟩
    rw [← hxe] at c0 c1 c2
    rw [← hye] at d0 d1 d2
    have HX:=Lib.hid hxe; clear hxe
    have HY:=Lib.hid hye; clear hye
    clear hcell hcell' hrA hrB
    have hstep:Hid (bQ (l.drop k) (m.drop k)=(decide (x=y) && bQ (l.drop (k+1)) (m.drop (k+1)))):=by
     rw [List.drop_eq_getElem_cons hlt,List.drop_eq_getElem_cons hlt',HX.out,HY.out]; rfl
    obtain ⟨v,hv⟩ : ∃ v,decide (x=y)=v:=⟨_,rfl⟩
    have HV:=Lib.hid hv; clear hv
    cases v
    all_goals
     go_wp2
     refine bf _ (by kernel_rfl) (by kernel_rfl) ?_
     repeat (any_goals (first | go_big_quiet_step ((go_at_call 160; refine jY HV (Nat.le_refl _) (nO x y _))) | (refine wpQuiet_step (fun K hK=>?_); go_simp; split <;> (refine hK _ ?_; clear hK K))))
     all_goals (refine wpQuiet_nil ?_; rintro _ ⟨q1,rfl⟩)
     all_goals go_wp2
    ·go_ret
     refine ⟨?_,q1.below⟩
     rw [← HR.out,hstep.out,HV.out]; rfl
    ·go_roundw
     case rel=>exact ⟨k+1,by omega,by go_num,⟨q1,rfl⟩,by have h1:=HR.out; rw [hstep.out,HV.out] at h1; exact h1⟩
     case measure=>simp [intOf]; omega
   ·have hk' : k=l.length:=by omega
    go_wp2
    go_ret
    refine ⟨?_,q.below⟩
    rw [← HR.out,List.drop_eq_nil_of_le (by omega),List.drop_eq_nil_of_le (by have:=HE.out; omega)]; rfl
 ·have hbn:((l.length:Int) != (m.length:Int))=true:=by rw [bne_iff_ne]; omega
  have hF:Hid (bW l m=false):=by
   unfold bW; rw [decide_eq_false_iff_not]; intro h; exact hne (by rw [h])
  go_enter Tryz.func102,Tryz.ntmps102
  go_wp2
  go_ret
  exact ⟨by rw [hF.out]; rfl,Below.refl _ _⟩
set_option maxHeartbeats 1000000 in
theorem eN (A:Option Addr) (c n B:Nat) (k0:Int) (cs:List Value) (w:World) (hk : -1000000000≤k0) (hk' : k0≤1000000000) (hn:n≤100000000) (h:bM w B 147 3 A n cs) :
  Calls Tryz.prog 104 #[F A n c,O U k0] w fun e w'=>e=.returned (O U (k0+3 * n))∧bM w' B 147 3 A n (bn (ramp k0 (n * 3)))∧w.grownBy w' (A.map (·.block)):=by
 obtain ⟨hl,hn',h0 | ⟨g,rest,rfl,hg,hh⟩⟩:=h
 ·obtain ⟨rfl,rfl⟩:=h0
  go_enter Tryz.func104,Tryz.ntmps104
  go_wp2
  refine wp_loop_rounds 1 ?_
  rw [rounds_succ]
  go_wp2
  go_ret
  exact ⟨by simp,⟨by simp [ramp],by omega,.inl ⟨rfl,rfl⟩⟩,World.grownBy.refl w _⟩
 ·have HF:Hid (ah w g 147 (bn (ramp k0 (0 * 3))++(cs++rest))∧n * 3≤(cs++rest).length):=⟨by simpa [ramp] using hh,by simp; omega⟩
  clear hh hl
  go_enter Tryz.func104,Tryz.ntmps104
  go_wp2
  go_loopw [1,5] (fun kk i wr=>∃ (j:Nat) (more:List Value),j≤n∧i=O U j∧kk=O U (k0+3 * j)∧Hid (ah wr g 147 (bn (ramp k0 (j * 3))++more)∧n * 3≤j * 3+more.length)∧w.grownBy wr (some g)) (fun _ i _=>n - (intOf i).toNat)
  case atStart=>exact ⟨0,cs++rest,Nat.zero_le _,rfl,congrArg _ (by simp),⟨HF.out.1,by have:=HF.out.2; omega⟩,World.grownBy.refl w _⟩
  case round =>
   obtain ⟨j,more,hj,rfl,rfl,HR,hgr⟩:=hrel
   by_cases hlt:j < n
   ·obtain ⟨u0,u1,u2,more',rfl⟩ : ∃ u0 u1 u2 more',more=u0 :: u1 :: u2 :: more':=by
     have h2:=HR.out.2
     have hle:3≤more.length:=by omega
     clear HR HF
     exact tD hle
    have HE:Hid ((bn (ramp k0 (j * 3))).length=j * 3):=by unfold Hid bn; rw [List.length_map,gl]
    have c0:wr.cell? ⟨g,j * 3,none⟩=some u0:=(HR.out.1.cell _).trans (ic HE.out 0)
    have f0:wr.frozen? ⟨g,j * 3,none⟩=false:=HR.out.1.frozen _
    have c1:wr.cell? ⟨g,j * 3+1,none⟩=some u1:=(HR.out.1.cell _).trans (ic HE.out 1)
    have f1:wr.frozen? ⟨g,j * 3+1,none⟩=false:=HR.out.1.frozen _
    have c2:wr.cell? ⟨g,j * 3+2,none⟩=some u2:=(HR.out.1.cell _).trans (ic HE.out 2)
    have f2:wr.frozen? ⟨g,j * 3+2,none⟩=false:=HR.out.1.frozen _
    go_wp2
    go_roundw
    case rel =>
     refine ⟨j+1,more',by omega,by go_num,congrArg _ (by omega),⟨?_,by have:=HR.out.2; simp only [List.length_cons] at this; omega⟩,ab (ab (ab (hgr)))⟩
     have h1:=HR.out.1
     have h1:=h1.set (j * 3) (O U (k0+3 * (j:Int)))
     have e0:=fun r u=>gm (r:=r) HE.out 0 (u:Value)
     rw [Nat.add_zero] at e0
     rw [e0] at h1
     have h1:=h1.set (j * 3+1) (O U (k0+3 * (j:Int)+1))
     rw [gm HE.out 1] at h1
     have h1:=h1.set (j * 3+2) (O U (k0+3 * (j:Int)+1+1))
     rw [gm HE.out 2] at h1
     have e:ramp k0 ((j+1) * 3)=ramp k0 (j * 3)++[k0+3 * (j:Int),k0+3 * (j:Int)+1,k0+3 * (j:Int)+1+1]:=by
      rw [show (j+1) * 3=j * 3+3 by omega]
      simp only [kI,List.append_assoc,List.cons_append,List.nil_append]
      simp
      omega
     rw [e]
     unfold bn at h1 ⊢
     rw [List.map_append,List.append_assoc]
     exact h1
    case measure=>simp [intOf]; omega
   ·have HJ:Hid (j=n):=by unfold Hid; omega
    go_wp2
    go_ret
    refine ⟨by rw [← HJ.out]; rfl,⟨by rw [np,gl,Nat.mul_one],hn',.inr ⟨g,more,rfl,hg,by rw [← HJ.out]; exact HR.out.1⟩⟩,hgr⟩
structure aL where
 TA:Option Addr
 t:List ap
 tc:Nat
 OA:Option Addr
 o:List ae
 oc:Nat
 got:Int
 sold:Int
 missed:Int
def aL.enc (x:aL):List Value:=[F x.TA x.t.length x.tc,F x.OA x.o.length x.oc,O U x.got,O U x.sold,O U x.missed]
abbrev aL.val (x:aL):Value:=.agg #[F x.TA x.t.length x.tc,F x.OA x.o.length x.oc,O U x.got,O U x.sold,O U x.missed]
theorem aL.enc_len (x:aL):x.enc.length=5:=rfl
structure aM (w:World) (B:Nat) (x:aL):Prop where
 ts:fk w B x.TA x.t
 os:dS w B x.OA x.o
section
variable {w w' : World} {B:Nat} {x:aL}
theorem aM.below (h:aM w B x) (hb:Below B w w'):aM w' B x:=⟨aY.below h.ts hb,aY.below h.os hb⟩
theorem aM.mono {B' : Nat} (h:aM w B x) (hB:B≤B'):aM w B' x:=⟨aY.mono h.ts hB,aY.mono h.os hB⟩
theorem aM.up (h:aM w B x) (hb:Below B w w') (hB:B≤w.heap.size):aM w' w'.heap.size x:=⟨aY.up h.ts hb hB,aY.up h.os hb hB⟩
theorem aM.then (h:aM w w.heap.size x) (hb:Below w.heap.size w w'):aM w' w'.heap.size x:=h.up hb (Nat.le_refl _)
end
def ap.ok (r:ap):Bool:=bU r.k 1 99 && bU r.c 0 9999
theorem ap.bounds {r:ap} (h:r.ok=true):(1≤r.k∧r.k≤99)∧0≤r.c∧r.c≤9999:=by
 unfold ap.ok at h; rw [Bool.and_eq_true,bL,bL] at h; exact h
def cF:Nat→Int→List ap→Bool
 | _,_,[]=>true
 | n,p,r :: l=>r.ok && (decide (n=0) || decide (p < r.k)) && cF (n+1) r.k l
def eQ (l:List ap):Bool:=cF 0 0 l
theorem fG:∀ (l:List ap) (n:Nat) (p:Int),cF n p l=true→∀ i (h:i < l.length),l[i].ok=true
 | r :: l,n,p,hg,i,hi=>by
  simp only [cF,Bool.and_eq_true] at hg
  cases i with
  | zero=>exact hg.1.1
  | succ i=>exact fG l (n+1) r.k hg.2 i (by simpa using hi)
def aO (ts:List ap) (k:Int):Bool:=ts.any fun t=>decide (t.k=k)
def au (ts:List ap) (k:Int):Int:=bi (fun t:ap=>decide (t.k=k)) 0 ts
theorem de (ts:List ap) (k:Int):decide (0≤au ts k)=aO ts k:=lu _ ts 0
def ae.ok (ts:List ap) (r:ae):Bool:=aO ts r.k && bU r.p 1 999 && bU r.c 1 9999
theorem ae.bounds {ts:List ap} {r:ae} (h:r.ok ts=true):aO ts r.k=true∧(1≤r.p∧r.p≤999)∧1≤r.c∧r.c≤9999:=by
 unfold ae.ok at h; rw [Bool.and_eq_true,Bool.and_eq_true,bL,bL] at h; exact ⟨h.1.1,h.1.2,h.2⟩
def before (a b:ae):Bool:=decide (a.k < b.k) || decide (a.k=b.k) && decide (a.p < b.p)
def dx (ts:List ap):Option ae→List ae→Bool
 | _,[]=>true
 | p,r :: l=>r.ok ts && (match p with | none=>true | some q=>before q r) && dx ts (some r) l
def eF (ts:List ap) (l:List ae):Bool:=dx ts none l
theorem fm (ts:List ap):∀ (l:List ae) (p:Option ae),dx ts p l=true→∀ i (h:i < l.length),l[i].ok ts=true
 | r :: l,p,hg,i,hi=>by
  simp only [dx,Bool.and_eq_true] at hg
  cases i with
  | zero=>exact hg.1.1
  | succ i=>exact fm ts l (some r) hg.2 i (by simpa using hi)
theorem ei {ts:List ap} {k:Int} (hall:∀ i (h:i < ts.length),ts[i].ok=true) (h:aO ts k=true):1≤k∧k≤99:=by
 unfold aO at h
 rw [List.any_eq_true] at h
 obtain ⟨t,ht,hk⟩:=h
 obtain ⟨i,hi,rfl⟩:=List.getElem_of_mem ht
 have:=(ap.bounds (hall i hi)).1
 have e:=of_decide_eq_true hk
 omega
theorem mi {a b:ae} (ha:1≤a.p∧a.p≤999) (hb:1≤b.p∧b.p≤999):before a b=decide (1000 * a.k+a.p < 1000 * b.k+b.p):=by
 unfold before
 by_cases h1:a.k < b.k
 ·rw [decide_eq_true h1,Bool.true_or]; exact (decide_eq_true (by omega)).symm
 ·rw [decide_eq_false h1,Bool.false_or]
  by_cases h2:a.k=b.k
  ·rw [decide_eq_true h2,Bool.true_and]
   by_cases h3:a.p < b.p
   ·rw [decide_eq_true h3]; exact (decide_eq_true (by omega)).symm
   ·rw [decide_eq_false h3]; exact (decide_eq_false (by omega)).symm
  ·rw [decide_eq_false h2,Bool.false_and]; exact (decide_eq_false (by omega)).symm
def fP:Int→List ap→Int
 | s,[]=>s
 | s,r :: l=>fP (s+r.c) l
def bs (f:ae→Bool):Int→List ae→Int
 | s,[]=>s
 | s,r :: l=>bs f (if f r then s+r.c else s) l
def cc (l:List ap):Int:=fP 0 l
def aS (f:ae→Bool) (l:List ae):Int:=bs f 0 l
abbrev cm:ae→Bool:=fun _=>true
theorem qO {l:List ap} {k:Nat} (h:k < l.length) (s:Int):fP s (l.drop k)=fP (s+l[k].c) (l.drop (k+1)):=by
 rw [List.drop_eq_getElem_cons h]; rfl
theorem j0 {f:ae→Bool} {l:List ae} {k:Nat} (h:k < l.length) (s:Int):bs f s (l.drop k)=bs f (if f l[k] then s+l[k].c else s) (l.drop (k+1)):=by
 rw [List.drop_eq_getElem_cons h]; rfl
theorem jk:∀ (l:List ap) (s:Int),(∀ i (h:i < l.length),l[i].ok=true)→s≤fP s l∧fP s l≤s+9999 * l.length
 | [],s,_=>by simp [fP]
 | r :: l,s,h=>by
  have hr:=(ap.bounds (h 0 (by simp))).2
  simp only [List.getElem_cons_zero] at hr
  have:=jk l (s+r.c) (fun i hi=>by have:=h (i+1) (by simpa using hi); simpa using this)
  simp only [fP,List.length_cons]
  omega
theorem eU (f:ae→Bool) (ts:List ap):∀ (l:List ae) (s:Int),(∀ i (h:i < l.length),l[i].ok ts=true)→s≤bs f s l∧bs f s l≤s+9999 * l.length
 | [],s,_=>by simp [bs]
 | r :: l,s,h=>by
  have hr:=(ae.bounds (h 0 (by simp))).2.2
  simp only [List.getElem_cons_zero] at hr
  have:=eU f ts l (if f r then s+r.c else s) (fun i hi=>by have:=h (i+1) (by simpa using hi); simpa using this)
  simp only [bs,List.length_cons]
  cases hf:f r <;> simp only [hf,if_true,if_false,Bool.false_eq_true] at this ⊢ <;> omega
def eR (x:aL):Bool:=decide (x.t.length≤8) && decide (x.o.length≤8)
def iB (x:aL):Bool:=bU x.got 0 99999 && bU x.sold 0 99999 && bU x.missed 0 99999
def lw (x:aL):Bool:=decide (x.got=cc x.t+aS cm x.o+x.sold+x.missed)
def al (x:aL):Bool:=eR x && iB x && eQ x.t && eF x.t x.o && lw x
structure bo (x:aL):Prop where
 tl:x.t.length≤8
 ol:x.o.length≤8
 g:0≤x.got∧x.got≤99999
 s:0≤x.sold∧x.sold≤99999
 m:0≤x.missed∧x.missed≤99999
 ts:eQ x.t=true
 os:eF x.t x.o=true
 sum:x.got=cc x.t+aS cm x.o+x.sold+x.missed
theorem bj {x:aL} : al x=true ↔ bo x:=by
 unfold al eR iB lw
 simp only [Bool.and_eq_true,bL,decide_eq_true_eq]
 constructor
 ·rintro ⟨⟨⟨⟨⟨h1,h2⟩,⟨h3,h4⟩,h5⟩,h6⟩,h7⟩,h8⟩
  exact ⟨h1,h2,h3,h4,h5,h6,h7,h8⟩
 ·rintro ⟨h1,h2,h3,h4,h5,h6,h7,h8⟩
  exact ⟨⟨⟨⟨⟨h1,h2⟩,⟨h3,h4⟩,h5⟩,h6⟩,h7⟩,h8⟩
theorem bo.tall {x:aL} (h:bo x):∀ i (hi:i < x.t.length),x.t[i].ok=true:=fG _ _ _ h.ts
theorem bo.oall {x:aL} (h:bo x):∀ i (hi:i < x.o.length),x.o[i].ok x.t=true:=fm _ _ _ h.os
structure Oc where
 t:List ap
 o:List ae
 got:Int
 sold:Int
 missed:Int
 deriving DecidableEq,Inhabited
def aL.c (x:aL):Oc:=⟨x.t,x.o,x.got,x.sold,x.missed⟩
def Oc.at (y:Oc) (TA:Option Addr) (tc:Nat) (OA:Option Addr) (oc:Nat):aL:=⟨TA,y.t,tc,OA,y.o,oc,y.got,y.sold,y.missed⟩
def Oc.good (y:Oc):Bool:=al (y.at none 0 none 0)
theorem Oc.good_at (y:Oc) (TA:Option Addr) (tc:Nat) (OA:Option Addr) (oc:Nat):al (y.at TA tc OA oc)=y.good:=rfl
theorem aL.good_c (x:aL):x.c.good=al x:=rfl
structure dW where
 kind:Int
 stamp:Int
 person:Int
 value:Int
 deriving DecidableEq,Inhabited
def dW.enc (s:dW):List Value:=[O U s.kind,O U s.stamp,O U s.person,O U s.value]
abbrev dW.val (s:dW):Value:=.agg #[O U s.kind,O U s.stamp,O U s.person,O U s.value]
theorem dW.enc_len (s:dW):s.enc.length=4:=rfl
def dW.okS (s:dW):Bool :=
  (if s.kind = 1 then decide (s.person = 0) && bU s.value 1 9999
   else if s.kind = 2 ∨ s.kind = 3 then bU s.person 1 999 && bU s.value 1 9999
   else if s.kind = 4 then (bU s.person 1 999 || decide (s.person = 0)) && bU s.value 1 9999
   else if s.kind = 5 then bU s.person 1 999 && decide (s.value = 0)
   else if s.kind = 6 then bU s.person 1 999 && bU s.value 1 999
   else false) && bU s.stamp 1 99
def dW.ok (s:dW):Bool :=
  bU s.stamp 1 99 &&
  (if s.kind = 1 then decide (s.person = 0) && bU s.value 1 9999
   else if s.kind = 2 ∨ s.kind = 3 then bU s.person 1 999 && bU s.value 1 9999
   else if s.kind = 4 then bU s.person 0 999 && bU s.value 1 9999
   else if s.kind = 5 then bU s.person 1 999 && decide (s.value = 0)
   else if s.kind = 6 then bU s.person 1 999 && bU s.value 1 999 && decide (s.value ≠ s.person)
   else false)
inductive dW.Is (s:dW):Prop
 | get (hk:s.kind=1) (hp:s.person=0) (hv:1≤s.value∧s.value≤9999)
 | show_ (hk:s.kind=2) (hp:1≤s.person∧s.person≤999) (hv:1≤s.value∧s.value≤9999)
 | back (hk:s.kind=3) (hp:1≤s.person∧s.person≤999) (hv:1≤s.value∧s.value≤9999)
 | sell0 (hk:s.kind=4) (hp:s.person=0) (hv:1≤s.value∧s.value≤9999)
 | sell (hk:s.kind=4) (hp:1≤s.person∧s.person≤999) (hv:1≤s.value∧s.value≤9999)
 | miss (hk:s.kind=5) (hp:1≤s.person∧s.person≤999) (hv:s.value=0)
 | move (hk:s.kind=6) (hp:1≤s.person∧s.person≤999) (hv:1≤s.value∧s.value≤999)
theorem dW.okS_is {s:dW} (h:s.okS=true):(1≤s.stamp∧s.stamp≤99)∧s.Is:=by
 unfold dW.okS at h
 rw [Bool.and_eq_true,bL] at h
 refine ⟨h.2, ?_⟩
 have h:=h.1
 split at h
 ·rename_i hk; simp only [Bool.and_eq_true,bL,decide_eq_true_eq] at h; exact .get hk h.1 h.2
 ·split at h
  ·rename_i hk; simp only [Bool.and_eq_true,bL] at h
   rcases hk with hk | hk
   ·exact .show_ hk h.1 h.2
   ·exact .back hk h.1 h.2
  ·split at h
   ·rename_i hk; simp only [Bool.and_eq_true,Bool.or_eq_true,bL,decide_eq_true_eq] at h
    rcases h.1 with hp | hp
    ·exact .sell hk hp h.2
    ·exact .sell0 hk hp h.2
   ·split at h
    ·rename_i hk; simp only [Bool.and_eq_true,bL,decide_eq_true_eq] at h; exact .miss hk h.1 h.2
    ·split at h
     ·rename_i hk; simp only [Bool.and_eq_true,bL] at h; exact .move hk h.1 h.2
     ·cases h
theorem dW.ok_okS (s:dW):s.ok=(s.okS && !(decide (s.kind=6) && decide (s.value=s.person))):=by
 unfold dW.ok dW.okS
 generalize hst:bU s.stamp 1 99=st
 by_cases h1:s.kind=1
 ·have e:decide (s.kind=6)=false:=decide_eq_false (by omega)
  rw [if_pos h1,if_pos h1,e]; cases st <;> simp
 ·rw [if_neg h1,if_neg h1]
  by_cases h2:s.kind=2 ∨ s.kind=3
  ·have e:decide (s.kind=6)=false:=decide_eq_false (by omega)
   rw [if_pos h2,if_pos h2,e]; cases st <;> simp
  ·rw [if_neg h2,if_neg h2]
   by_cases h4:s.kind=4
   ·have e:decide (s.kind=6)=false:=decide_eq_false (by omega)
    have e2:bU s.person 0 999=(bU s.person 1 999 || decide (s.person=0)):=by
     rw [Bool.eq_iff_iff,Bool.or_eq_true,bL,bL,decide_eq_true_eq]; omega
    rw [if_pos h4,if_pos h4,e,e2]; cases st <;> simp
   ·rw [if_neg h4,if_neg h4]
    by_cases h5:s.kind=5
    ·have e:decide (s.kind=6)=false:=decide_eq_false (by omega)
     rw [if_pos h5,if_pos h5,e]; cases st <;> simp
    ·rw [if_neg h5,if_neg h5]
     by_cases h6:s.kind=6
     ·rw [if_pos h6,if_pos h6,decide_eq_true h6]
      by_cases h7:s.value=s.person
      ·simp [h7]
      ·simp [h7]; cases st <;> simp
     ·rw [if_neg h6,if_neg h6]; cases st <;> rfl
def cK (ts:List ap) (kd:Int):Nat:=(ts.takeWhile fun t=>decide (t.k < kd)).length
theorem jl (ts:List ap) (kd:Int):cK ts kd≤ts.length:=by
 unfold cK; exact (List.takeWhile_prefix _).length_le
theorem jm (t:ap) (ts:List ap) (kd:Int):cK (t :: ts) kd=if t.k < kd then cK ts kd+1 else 0:=by
 unfold cK; rw [List.takeWhile_cons]; by_cases h:t.k < kd <;> simp [h]
theorem qP:∀ (ts:List ap) (kd:Int) (i:Nat) (h:i < ts.length),i < cK ts kd→ts[i].k < kd
 | t :: ts,kd,i,h,hi=>by
  rw [jm] at hi
  split at hi
  ·cases i with
   | zero=>assumption
   | succ i=>exact qP ts kd i (by simpa using h) (by omega)
  ·omega
theorem qQ:∀ (ts:List ap) (kd:Int) (h:cK ts kd < ts.length),¬ ts[cK ts kd].k < kd
 | t :: ts,kd,h=>by
  by_cases hk:t.k < kd
  ·have e:cK (t :: ts) kd=cK ts kd+1:=by rw [jm,if_pos hk]
   simp only [e,List.getElem_cons_succ]
   exact qQ ts kd (by simpa [e] using h)
  ·have e:cK (t :: ts) kd=0:=by rw [jm,if_neg hk]
   simp only [e,List.getElem_cons_zero]; exact hk
def ug (ts:List ap):Prop:=ts.Pairwise fun a b=>a.k < b.k
theorem jB:∀ (ts:List ap) (n:Nat) (p:Int),cF n p ts=true→ug ts∧(n ≠ 0→∀ t ∈ ts,p < t.k)
 | [],_,_,_=>⟨List.Pairwise.nil,fun _ t ht=>by cases ht⟩
 | r :: l,n,p,h=>by
  simp only [cF,Bool.and_eq_true,Bool.or_eq_true,decide_eq_true_eq] at h
  obtain ⟨h1,h2⟩:=jB l (n+1) r.k h.2
  have h3:=h2 (by omega)
  refine ⟨List.pairwise_cons.2 ⟨h3,h1⟩,fun hn t ht=>?_⟩
  have hp:p < r.k:=by rcases h.1.2 with h0 | h0; exact absurd h0 hn; exact h0
  rcases List.mem_cons.1 ht with rfl | ht
  ·exact hp
  ·have:=h3 t ht; omega
theorem tE (ts:List ap) (kd:Int) (ha:ug ts) (i:Nat) (h:i < ts.length) (hi:cK ts kd≤i) : ¬ ts[i].k < kd:=by
 have h0:=qQ ts kd (by omega)
 rcases Nat.lt_or_ge (cK ts kd) i with hlt | hge
 ·have:=List.pairwise_iff_getElem.1 ha (cK ts kd) i (by omega) h hlt
  omega
 ·have e:cK ts kd=i:=by omega
  simp only [e] at h0; exact h0
def ai (ts:List ap) (kd n:Int):List ap :=
 if 0≤au ts kd then ts.set (au ts kd).toNat ⟨(ts.getD (au ts kd).toNat default).k,(ts.getD (au ts kd).toNat default).c+n⟩
 else ts.take (cK ts kd)++⟨kd,n⟩ :: ts.drop (cK ts kd)
def dy (ts:List ap) (kd:Int):List ap:=ts.take (cK ts kd)++⟨kd,0⟩ :: ts.drop (cK ts kd)
theorem iY {α:Type} (f:α→Bool) (y:α) (r:List α) (hy:f y=true):∀ (l:List α) (k:Nat),(∀ x ∈ l,f x=false)→bi f k (l++y :: r)=(k+l.length:Nat)
 | [],k,_=>by simp [bi,hy]
 | x :: l,k,h=>by
  rw [List.cons_append,bi,h x (by simp)]
  rw [if_neg (by simp),iY f y r hy l (k+1) fun y hy=>h y (by simp [hy])]
  simp; omega
theorem mj {α:Type} (f:α→Bool):∀ (l:List α) (k:Nat),bi f k l < k+l.length
 | [],_=>by simp [bi]; omega
 | x :: l,k=>by
  rw [bi]; split
  ·simp; omega
  ·have:=mj f l (k+1); simp only [List.length_cons]; omega
theorem kJ {ts:List ap} {kd:Int} (h:0≤au ts kd):(au ts kd).toNat < ts.length:=by
 have:=mj (fun t:ap=>decide (t.k=kd)) ts 0
 change au ts kd < _ at this; omega
theorem ly {ts:List ap} {kd:Int} (h : ¬ 0≤au ts kd):∀ t ∈ ts,t.k ≠ kd:=by
 have h1:=de ts kd
 rw [decide_eq_false h] at h1
 intro t ht e
 have:aO ts kd=true:=by unfold aO; rw [List.any_eq_true]; exact ⟨t,ht,decide_eq_true e⟩
 rw [this] at h1; cases h1
theorem pX {ts:List ap} {kd:Int} (h : ¬ 0≤au ts kd):au (dy ts kd) kd=cK ts kd:=by
 have h0:=ly h
 unfold au dy
 rw [iY _ _ _ (by simp) _ 0 fun t ht=>by simpa using h0 t (List.mem_of_mem_take ht)]
 simp [List.length_take,Nat.min_eq_left (jl ts kd)]
theorem oS {ts:List ap} {kd:Int} (n:Int) (h : ¬ 0≤au ts kd) :
  ai ts kd n=(dy ts kd).set (cK ts kd) ⟨((dy ts kd).getD (cK ts kd) default).k,((dy ts kd).getD (cK ts kd) default).c+n⟩:=by
 unfold ai
 rw [if_neg h]
 have hl:(ts.take (cK ts kd)).length=cK ts kd:=by rw [List.length_take,Nat.min_eq_left (jl ts kd)]
 have e:(dy ts kd).getD (cK ts kd) default=⟨kd,0⟩:=by
  unfold dy
  rw [List.getD_eq_getElem?_getD,List.getElem?_append_right (by omega),hl,Nat.sub_self]; rfl
 rw [e]
 unfold dy
 rw [List.set_append_right _ _ (by omega),hl,Nat.sub_self,List.set_cons_zero,Int.zero_add]
theorem df {a b:ae} : before a b=true ↔ a.k < b.k ∨ a.k=b.k∧a.p < b.p:=by
 unfold before; simp
def mZ (os:List ae):Prop:=os.Pairwise fun a b=>before a b=true
theorem j9 (ts:List ap):∀ (os:List ae) (p:Option ae),dx ts p os=true→mZ os∧∀ q,p=some q→∀ o ∈ os,before q o=true
 | [],_,_=>⟨List.Pairwise.nil,fun _ _ o ho=>by cases ho⟩
 | r :: l,p,h=>by
  simp only [dx,Bool.and_eq_true] at h
  obtain ⟨h1,h2⟩:=j9 ts l (some r) h.2
  have h3:=h2 r rfl
  refine ⟨List.pairwise_cons.2 ⟨h3,h1⟩, ?_⟩
  rintro q rfl o ho
  have hq:before q r=true:=h.1.2
  rcases List.mem_cons.1 ho with rfl | ho
  ·exact hq
  ·have:=h3 o ho
   rw [df] at this hq ⊢; omega
def eu (k p:Int) (o:ae):Bool:=decide (o.k=k) && decide (o.p=p)
theorem dz {k p:Int} {o:ae} : eu k p o=true ↔ o.k=k∧o.p=p:=by unfold eu; simp
def aJ (k p:Int):List ae→Int
 | []=>0
 | o :: l=>if eu k p o then o.c else aJ k p l
def aI (k p:Int):Int→List ae→List ae
 | c,[]=>if c ≠ 0 then [⟨k,p,c⟩] else []
 | c,o :: l =>
  if before ⟨k,p,0⟩ o=true∧c ≠ 0 then ⟨k,p,c⟩ :: (if eu k p o then aI k p 0 l else o :: aI k p 0 l)
  else if eu k p o then aI k p c l else o :: aI k p c l
theorem mn {k p:Int} : ∀ l:List ae,(∀ o ∈ l,eu k p o=false)→aI k p 0 l=l
 | [],_=>by simp [aI]
 | o :: l,h=>by
  rw [aI,if_neg (by simp),h o (by simp),if_neg (by simp),mn l fun q hq=>h q (by simp [hq])]
theorem ka {k p:Int} {o:ae} (h:before ⟨k,p,0⟩ o=true):eu k p o=false:=by
 rw [df] at h; simp only at h
 rw [Bool.eq_false_iff]; intro e; rw [dz] at e; omega
theorem nq {k p c:Int} (hc:c ≠ 0):∀ l:List ae,(∀ o ∈ l,before ⟨k,p,0⟩ o=true)→aI k p c l=⟨k,p,c⟩ :: l
 | [],_=>by simp [aI,hc]
 | o :: l,h=>by
  have ho:=h o (by simp)
  rw [aI,if_pos ⟨ho,hc⟩,ka ho,if_neg (by simp),mn l fun q hq=>ka (h q (by simp [hq]))]
def dX (k p by_:Int):List ae→List ae
 | []=>[⟨k,p,by_⟩]
 | o :: l=>if before o ⟨k,p,0⟩ then o :: dX k p by_ l else if eu k p o then (if o.c+by_=0 then l else ⟨o.k,o.p,o.c+by_⟩ :: l) else ⟨k,p,by_⟩ :: o :: l
theorem fM {k p by_:Int} : ∀ l:List ae,mZ l→(aJ k p l=0→by_ ≠ 0)→dX k p by_ l=aI k p (aJ k p l+by_) l
 | [],_,h=>by
  have hb:by_ ≠ 0:=h rfl
  simp [dX,aI,aJ,hb]
 | o :: l,ha,h=>by
  obtain ⟨h1,h2⟩:=List.pairwise_cons.1 ha
  rw [dX]
  by_cases hb:before o ⟨k,p,0⟩=true
  ·have hn:eu k p o=false:=by
    rw [df] at hb; simp only at hb
    rw [Bool.eq_false_iff]; intro e; rw [dz] at e; omega
   have hr : ¬ before ⟨k,p,0⟩ o=true:=by rw [df] at hb ⊢; simp only at hb ⊢; omega
   have eo:aJ k p (o :: l)=aJ k p l:=by rw [aJ,hn,if_neg (by simp)]
   rw [eo] at h ⊢
   rw [if_pos hb,fM l h2 h,aI,if_neg (fun e=>hr e.1),hn,if_neg (by simp)]
  ·rw [if_neg hb]
   by_cases hi:eu k p o=true
   ·have hi':=dz.1 hi
    have eo:aJ k p (o :: l)=o.c:=by rw [aJ,if_pos hi]
    have hr : ¬ before ⟨k,p,0⟩ o=true:=by rw [df]; simp only; omega
    have hl:∀ q ∈ l,before ⟨k,p,0⟩ q=true:=fun q hq=>by
     have:=h1 q hq; rw [df] at this ⊢; simp only at this ⊢; omega
    have eA:aI k p (o.c+by_) (o :: l)=aI k p (o.c+by_) l:=by rw [aI,if_neg (fun e=>hr e.1),if_pos hi]
    rw [eo,if_pos hi,eA]
    by_cases hz:o.c+by_=0
    ·rw [if_pos hz,hz,mn l fun q hq=>ka (hl q hq)]
    ·rw [if_neg hz,nq hz l hl,hi'.1,hi'.2]
   ·have hi0:eu k p o=false:=Bool.eq_false_iff.2 hi
    have hr:before ⟨k,p,0⟩ o=true:=by
     rw [df] at hb ⊢; simp only at hb ⊢
     rw [dz] at hi; omega
    have hl:∀ q ∈ l,before ⟨k,p,0⟩ q=true:=fun q hq=>by
     have:=h1 q hq; rw [df] at this hr ⊢; simp only at this hr ⊢; omega
    have hall:∀ q ∈ l,eu k p q=false:=fun q hq=>ka (hl q hq)
    have e0:aJ k p (o :: l)=0:=by
     have:∀ m:List ae,(∀ q ∈ m,eu k p q=false)→aJ k p m=0:=by
      intro m; induction m with
      | nil=>intro _; rfl
      | cons q m ih=>intro hm; rw [aJ,hm q (by simp),if_neg (by simp)]; exact ih fun r hr=>hm r (by simp [hr])
     exact this _ (by intro q hq; rcases List.mem_cons.1 hq with rfl | hq; exact hi0; exact hall q hq)
    have hb0:=h e0
    rw [if_neg hi,e0,Int.zero_add,nq hb0 (o :: l) (by intro q hq; rcases List.mem_cons.1 hq with rfl | hq; exact hr; exact hl q hq)]
theorem nP {k p:Int} : ∀ (l:List ae) (c:Int) (o:ae),o ∈ aI k p c l→o ∈ l ∨ o=⟨k,p,c⟩
 | [],c,o,h=>by
  rw [aI] at h; split at h
  ·simp at h; exact .inr h
  ·cases h
 | q :: l,c,o,h=>by
  have up0:∀ o,o ∈ (if eu k p q=true then aI k p 0 l else q :: aI k p 0 l)→o ∈ q :: l:=by
   intro o ho
   have hz:∀ m:List ae,∀ o ∈ aI k p 0 m,o ∈ m:=by
    intro m; induction m with
    | nil=>intro o ho; simp [aI] at ho
    | cons r m ih =>
     intro o ho
     rw [aI,if_neg (by simp)] at ho
     split at ho
     ·exact List.mem_cons_of_mem _ (ih o ho)
     ·rcases List.mem_cons.1 ho with rfl | ho
      ·simp
      ·exact List.mem_cons_of_mem _ (ih o ho)
   split at ho
   ·exact List.mem_cons_of_mem _ (hz l o ho)
   ·rcases List.mem_cons.1 ho with rfl | ho
    ·simp
    ·exact List.mem_cons_of_mem _ (hz l o ho)
  rw [aI] at h
  split at h
  ·rcases List.mem_cons.1 h with rfl | h
   ·exact .inr rfl
   ·exact .inl (up0 o h)
  ·split at h
   ·rcases nP l c o h with h | h
    ·exact .inl (List.mem_cons_of_mem _ h)
    ·exact .inr h
   ·rcases List.mem_cons.1 h with rfl | h
    ·exact .inl (by simp)
    ·rcases nP l c o h with h | h
     ·exact .inl (List.mem_cons_of_mem _ h)
     ·exact .inr h
theorem ew {k p:Int} : ∀ l:List ae,(aI k p 0 l).Sublist l
 | []=>by simp [aI]
 | o :: l=>by
  rw [aI,if_neg (by simp)]
  split
  ·exact (ew l).cons o
  ·exact (ew l).cons_cons o
theorem kK {k p:Int} : ∀ l:List ae,aJ k p l=0 ∨ ∃ o ∈ l,eu k p o=true∧o.c=aJ k p l
 | []=>.inl rfl
 | o :: l=>by
  rw [aJ]; split
  ·rename_i h; exact .inr ⟨o,by simp,h,rfl⟩
  ·rcases kK (k:=k) (p:=p) l with h | ⟨q,hq,h⟩
   ·exact .inl h
   ·exact .inr ⟨q,by simp [hq],h⟩
theorem mo {k p:Int} : ∀ l:List ae,(∀ o ∈ l,eu k p o=false)→aJ k p l=0
 | [],_=>rfl
 | o :: l,h=>by rw [aJ,h o (by simp),if_neg (by simp)]; exact mo l fun q hq=>h q (by simp [hq])
theorem kL {k p:Int} : ∀ (l:List ae) (s:Int),mZ l→bs (eu k p) s l=s+aJ k p l
 | [],s,_=>by simp [bs,aJ]
 | o :: l,s,ha=>by
  obtain ⟨h1,h2⟩:=List.pairwise_cons.1 ha
  rw [bs,aJ]
  by_cases hi:eu k p o=true
  ·rw [if_pos hi,if_pos hi,kL l _ h2,mo l,Int.add_zero]
   intro q hq
   have:=h1 q hq
   rw [df] at this
   have hi':=dz.1 hi
   rw [Bool.eq_false_iff]; intro e; rw [dz] at e; omega
  ·rw [if_neg hi,if_neg hi]; exact kL l s h2
end Go.Proofs.YtoeoimhemojdeaaGreatDoor
