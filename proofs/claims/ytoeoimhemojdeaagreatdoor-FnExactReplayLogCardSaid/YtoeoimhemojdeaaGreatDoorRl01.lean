/- Rl01: the texts NumF LogM SplitP Base In Ints More Tray Outing OffP StepP OffTo OffSpec OffSpec2 OffSpec3, joined into one file. -/
import Derived.Lib.ItoaNum
import Derived.Lib.ItoaLen
import Derived.Lib.AtoiTie
import Derived.Lib.IndexLaws
import Derived.Lib.LastIndexLaws
import Derived.Lib.IndexMore
import Derived.WalkKit
import Derived.WalkLawsBesides
import Derived.WalkSpells
import Derived.BigQuiet
import Derived.Deep.QuietTactic
import Derived.Deep.Draws
import Derived.Deep.MidRow
import Derived.Laws.CopyRow
import Derived.Outline
import Derived.Lib.Hide
import Derived.Handy
import Derived.Test.YtoeoimhemojdeaaGreatDoorProg

set_option linter.unusedVariables false
open Go.Value renaming int → O, slice → F, string → sQ
open Go.IntKind renaming i64 → U

namespace Go.Proofs.YtoeoimhemojdeaaGreatDoor
def rt (n:Int):Prop:=-999999≤n∧n≤999999
theorem iD {d:Nat} (h:d < 10):Lib.digitVal (UInt8.ofNat (48+d))=some d:=by
 have:(UInt8.ofNat (48+d)).toNat=48+d:=by simp [UInt8.toNat_ofNat']; omega
 unfold Lib.digitVal
 rw [this,if_pos (by omega)]
 congr 1; omega
theorem kH:∀ (l r:List UInt8) (acc m:Nat),Lib.decFrom acc l=some m→Lib.decFrom acc (l++r)=Lib.decFrom m r
 | [],r,acc,m,h=>by simp only [Lib.decFrom,Option.some.injEq] at h; subst h; rfl
 | b :: l,r,acc,m,h=>by
  simp only [List.cons_append,Lib.decFrom] at h ⊢
  cases hb:Lib.digitVal b with
  | none=>rw [hb] at h; cases h
  | some d=>rw [hb] at h; exact kH l r _ _ h
theorem gu (n:Nat):Lib.decFrom 0 (Lib.decDigits n)=some n:=by
 induction n using Nat.strongRecOn with
 | _ n ih =>
  rw [Lib.decDigits]
  by_cases h:n < 10
  ·rw [dif_pos h]
   simp only [Lib.decFrom,iD h]
   congr 1; omega
  ·rw [dif_neg h,kH _ _ _ _ (ih (n / 10) (by omega))]
   simp only [Lib.decFrom,iD (Nat.mod_lt n (by omega:0 < 10))]
   congr 1; omega
theorem ru (n:Nat):Lib.decDigits n ≠ []:=by
 intro h
 have h1:=Lib.decDigits_length n
 have h2:=Lib.nDigits_pos n
 rw [h] at h1; simp at h1; omega
theorem mF (n:Nat):∀ b ∈ Lib.decDigits n,48≤b.toNat∧b.toNat≤57:=by
 intro b hb
 obtain ⟨k,hk,e⟩:=List.getElem_of_mem hb
 obtain ⟨d,hd⟩:=Lib.digit_of_decFrom _ _ _ (gu n) k b (by rw [List.getElem?_eq_getElem hk,e])
 have:=Lib.digitVal_eq hd
 omega
theorem lA (n:Nat):Lib.decNat (Lib.decDigits n)=some n:=by
 unfold Lib.decNat
 rw [if_neg (by simp [ru])]
 exact gu n
theorem j9 (n:Int):Lib.atoi (Lib.itoa n)=some n:=by
 unfold Lib.itoa
 by_cases h:n < 0
 ·rw [if_pos h]
  simp only [Lib.atoi,beq_self_eq_true,if_true,lA,Option.map_some,Option.some.injEq]
  omega
 ·rw [if_neg h]
  obtain ⟨m,rfl⟩:=Int.eq_ofNat_of_zero_le (by omega:0≤n)
  rw [Int.toNat_natCast]
  cases hd:Lib.decDigits m with
  | nil=>exact absurd hd (ru m)
  | cons b r =>
   have hb:=mF m b (by rw [hd]; simp)
   have h1:(b == 45)=false:=by
    rw [beq_eq_false_iff_ne]; intro e; subst e; have:(45:UInt8).toNat=45:=rfl; omega
   have h2:(b == 43)=false:=by
    rw [beq_eq_false_iff_ne]; intro e; subst e; have:(43:UInt8).toNat=43:=rfl; omega
   simp only [Lib.atoi,h1,h2,Bool.false_eq_true,if_false]
   rw [← hd,lA]
   rfl
theorem rv {n m:Int} (h:Lib.itoa n=Lib.itoa m):n=m:=by
 have:=j9 n
 rw [h,j9 m] at this
 exact (Option.some.inj this).symm
theorem gw {n:Nat} (h:n≤999999):Lib.nDigits n≤6:=by
 by_cases h0:n=0
 ·subst h0; rw [Lib.nDigits_small (by omega)]; omega
 ·have h1:=Lib.nDigits_pos n
  by_cases h2:Lib.nDigits n≤6
  ·exact h2
  ·exfalso
   have key:∀ (k n:Nat),n < 10 ^ (k+1)→Lib.nDigits n≤k+1:=by
    intro k
    induction k with
    | zero=>intro n hn; rw [Lib.nDigits_small (by simpa using hn)]; omega
    | succ k ih =>
     intro n hn
     by_cases hs:n < 10
     ·rw [Lib.nDigits_small hs]; omega
     ·rw [Lib.nDigits_big hs]
      have:=ih (n / 10) (Nat.div_lt_of_lt_mul (by rw [Nat.mul_comm,← Nat.pow_succ]; exact hn))
      omega
   exact h2 (key 5 n (by omega))
theorem rx {n:Int} (h:rt n):1≤(Lib.itoa n).length∧(Lib.itoa n).length≤7:=by
 unfold Lib.itoa
 obtain ⟨h1,h2⟩:=h
 split
 ·have:=gw (n:=n.natAbs) (by omega)
  rw [List.length_cons,Lib.decDigits_length]; omega
 ·have:=gw (n:=n.toNat) (by omega)
  have h3:=Lib.nDigits_pos n.toNat
  rw [Lib.decDigits_length]; omega
open Classical in
noncomputable def ce (s:List UInt8):Option Int:=if h:∃ n,rt n∧Lib.itoa n=s then some h.choose else none
theorem qA {n:Int} (h:rt n):ce (Lib.itoa n)=some n:=by
 have hex:∃ m,rt m∧Lib.itoa m=Lib.itoa n:=⟨n,h,rfl⟩
 unfold ce
 rw [dif_pos hex]
 exact congrArg some (rv hex.choose_spec.2)
theorem lu {n:Int} {s:List UInt8} (h:rt n) (e:Lib.itoa n=s):ce s=some n:=e ▸ qA h
theorem gy {n:Int} {s:List UInt8} (h:ce s=some n):rt n∧Lib.itoa n=s:=by
 by_cases hex:∃ m,rt m∧Lib.itoa m=s
 ·unfold ce at h
  rw [dif_pos hex] at h
  have:=hex.choose_spec
  rw [Option.some.inj h] at this
  exact this
 ·unfold ce at h
  rw [dif_neg hex] at h; cases h
theorem nM {n:Int} (h:rt n):Lib.atoiAll (Lib.itoa n)=.ok n:=by
 rw [Lib.atoiAll_short _ (by have:=rx h; omega),j9]; rfl
theorem ry {s:List UInt8} {n:Int} (h:rt n) (e:Lib.itoa n=s) :
  (n < 0∧∃ t,s=45 :: t∧1≤t.length∧t.length≤6∧Lib.decFrom 0 t=some n.natAbs) ∨ (0≤n∧s.head? ≠ some 45∧1≤s.length∧s.length≤6∧Lib.decFrom 0 s=some n.natAbs):=by
 obtain ⟨h1,h2⟩:=h
 unfold Lib.itoa at e
 by_cases hn:n < 0
 ·left
  rw [if_pos hn] at e
  have h3:=gw (n:=n.natAbs) (by omega)
  have h4:=Lib.nDigits_pos n.natAbs
  exact ⟨hn,_,e.symm,by rw [Lib.decDigits_length]; omega,by rw [Lib.decDigits_length]; omega,gu _⟩
 ·right
  rw [if_neg hn] at e
  have h3:=gw (n:=n.toNat) (by omega)
  have h4:=Lib.nDigits_pos n.toNat
  have h5:n.natAbs=n.toNat:=by omega
  subst e
  refine ⟨by omega, ?_,by rw [Lib.decDigits_length]; omega,by rw [Lib.decDigits_length]; omega,by rw [h5]; exact gu _⟩
  intro hh
  have hm:(45:UInt8) ∈ Lib.decDigits n.toNat:=List.mem_of_mem_head? hh
  have:=mF _ _ hm
  have h6:(45:UInt8).toNat=45:=rfl
  omega
end Go.Proofs.YtoeoimhemojdeaaGreatDoor
namespace Go.Proofs.YtoeoimhemojdeaaGreatDoor
def dt (b:UInt8):List UInt8→List UInt8
 | []=>[]
 | x :: l=>if x=b then [] else x :: dt b l
theorem jA {b:UInt8} : ∀ {l:List UInt8},b ∉ l→dt b l=l
 | [],_=>rfl
 | x :: l,h=>by
  simp only [List.mem_cons,not_or] at h
  unfold dt; rw [if_neg (Ne.symm h.1),jA h.2]
theorem eV {b:UInt8} {r:List UInt8} : ∀ {t:List UInt8},b ∉ t→dt b (t++b :: r)=t
 | [],_=>by simp [dt]
 | x :: l,h=>by
  simp only [List.mem_cons,not_or] at h
  rw [List.cons_append]; unfold dt; rw [if_neg (Ne.symm h.1),eV h.2]
theorem fH (b:UInt8):∀ l:List UInt8,b ∉ dt b l
 | []=>by simp [dt]
 | x :: l=>by
  unfold dt; split
  ·simp
  ·rename_i h; simp only [List.mem_cons,not_or]; exact ⟨Ne.symm h,fH b l⟩
theorem jp (b:UInt8):∀ l:List UInt8,(b ∉ l∧dt b l=l) ∨ ∃ r,l=dt b l++b :: r
 | []=>.inl ⟨by simp,rfl⟩
 | x :: l=>by
  unfold dt
  by_cases h:x=b
  ·rw [if_pos h]; exact .inr ⟨l,by simp [h]⟩
  ·rw [if_neg h]
   rcases jp b l with ⟨h1,h2⟩ | ⟨r,h1⟩
   ·exact .inl ⟨by simp only [List.mem_cons,not_or]; exact ⟨Ne.symm h,h1⟩,by rw [h2]⟩
   ·exact .inr ⟨r,by rw [List.cons_append,← h1]⟩
theorem jB (b:UInt8) (l:List UInt8):(dt b l).length≤l.length:=by
 rcases jp b l with ⟨_,h⟩ | ⟨r,h⟩
 ·rw [h]; exact Nat.le_refl _
 ·have:=congrArg List.length h; simp at this; omega
theorem qB {b:UInt8} {l:List UInt8} : (dt b l).length=l.length ↔ b ∉ l:=by
 constructor
 ·intro h
  rcases jp b l with ⟨h1,_⟩ | ⟨r,h1⟩
  ·exact h1
  ·have:=congrArg List.length h1; simp at this; omega
 ·intro h; rw [jA h]
theorem lB {b:UInt8} (l:List UInt8):l.take (dt b l).length=dt b l:=by
 rcases jp b l with ⟨_,h⟩ | ⟨r,h⟩
 ·rw [h]; simp
 ·have e:(dt b l++b :: r).take (dt b l).length=dt b l:=List.take_left' rfl
  rwa [← h] at e
theorem df {b:UInt8} {l:List UInt8} (h:b ∈ l):l=dt b l++b :: l.drop ((dt b l).length+1):=by
 rcases jp b l with ⟨h1,_⟩ | ⟨r,h1⟩
 ·exact absurd h h1
 ·have e:(dt b l++b :: r).drop ((dt b l).length+1)=r:=by
   rw [List.drop_append,List.drop_eq_nil_of_le (by omega)]; simp
  rw [← h1] at e
  rw [e]; exact h1
theorem gz (s:List UInt8) (b:UInt8) (i:Nat):Lib.occAt s [b] i=decide (s[i]?=some b):=by
 unfold Lib.occAt
 rcases Nat.lt_or_ge i s.length with h | h
 ·rw [List.drop_eq_getElem_cons h,List.getElem?_eq_getElem h]
  by_cases e:s[i]=b
  ·subst e; simp [List.isPrefixOf]
  ·simp [List.isPrefixOf,e,Ne.symm e]
 ·rw [List.drop_eq_nil_of_le h,List.getElem?_eq_none h]; rfl
theorem iE {s:List UInt8} {b:UInt8} (h:b ∉ s):Lib.index s [b] = -1 :=
 Lib.index_none fun j _=>by
  rw [gz,decide_eq_false_iff_not]; intro e; exact h (List.mem_of_getElem? e)
theorem je {t r:List UInt8} {b:UInt8} (h:b ∉ t):Lib.index (t++b :: r) [b]=t.length :=
 Lib.index_first (by simp) (by rw [gz]; simp) fun j hj=>by
  rw [gz,decide_eq_false_iff_not,List.getElem?_append_left hj]; intro e; exact h (List.mem_of_getElem? e)
theorem ia (s:List UInt8) (b:UInt8):(b ∉ s∧Lib.index s [b] = -1) ∨ (b ∈ s∧Lib.index s [b]=(dt b s).length):=by
 rcases jp b s with ⟨h,_⟩ | ⟨r,h⟩
 ·exact .inl ⟨h,iE h⟩
 ·refine .inr ⟨by rw [h]; simp, ?_⟩
  rw (occs:=[1]) [h]; exact je (fH b s)
theorem m6 (s:List UInt8) (b:UInt8):Lib.contains s [b]=s.contains b:=by
 unfold Lib.contains
 rcases ia s b with ⟨h,e⟩ | ⟨h,e⟩
 ·rw [e]; simp [h]
 ·rw [e]; simp [h]
theorem m7 {t r:List UInt8} {b:UInt8} (h:b ∉ r):Lib.lastIndex (t++b :: r) [b]=t.length:=by
 unfold Lib.lastIndex
 rw [if_pos (by simp; omega)]
 rcases Lib.lastOcc_spec (t++b :: r) [b] ((t++b :: r).length - [b].length+1) with ⟨_,hn⟩ | ⟨i,hi,e,ho,hn⟩
 ·have:=hn t.length (by simp; omega)
  rw [gz] at this; simp at this
 ·rw [e]
  rw [gz,decide_eq_true_eq] at ho
  rcases Nat.lt_trichotomy i t.length with hlt | heq | hgt
  ·have:=hn t.length hlt (by simp; omega)
   rw [gz] at this; simp at this
  ·rw [heq]
  ·exfalso
   rw [List.getElem?_append_right (by omega)] at ho
   obtain ⟨d,hd⟩ : ∃ d,i - t.length=d+1:=⟨i - t.length - 1,by omega⟩
   rw [hd,List.getElem?_cons_succ] at ho
   exact h (List.mem_of_getElem? ho)
theorem nN (s:List UInt8) (b:UInt8):Lib.lastIndex s [b] = -1 ∨ ∃ i:Nat,Lib.lastIndex s [b]=i∧i < s.length∧s[i]?=some b:=by
 unfold Lib.lastIndex
 split
 ·rcases Lib.lastOcc_spec s [b] (s.length - [b].length+1) with ⟨e,_⟩ | ⟨i,hi,e,ho,_⟩
  ·exact .inl e
  ·rw [gz,decide_eq_true_eq] at ho
   exact .inr ⟨i,e,(List.getElem?_eq_some_iff.1 ho).1,ho⟩
 ·exact .inl rfl
theorem qC:∀ (n:Nat) (c:UInt8),c ∈ Lib.decDigits n→48≤c.toNat∧c.toNat≤57:=by
 intro n
 induction n using Nat.strongRecOn with
 | ind n ih =>
  intro c hc
  rw [Lib.decDigits] at hc
  have one:∀ k,k < 10→c=UInt8.ofNat (48+k)→48≤c.toNat∧c.toNat≤57:=by
   intro k hk e
   have:c.toNat=48+k:=by rw [e,UInt8.toNat_ofNat']; omega
   omega
  split at hc
  ·rename_i h; exact one n h (by simpa using hc)
  ·rename_i h
   rcases List.mem_append.1 hc with h1 | h1
   ·exact ih (n / 10) (by omega) c h1
   ·exact one (n % 10) (by omega) (by simpa using h1)
theorem rz (n:Nat):Lib.itoa (n:Int)=Lib.decDigits n:=by unfold Lib.itoa; rw [if_neg (by omega),Int.toNat_natCast]
theorem iU {n:Nat} {b:UInt8} (h:b.toNat < 48 ∨ 57 < b.toNat):b ∉ Lib.itoa (n:Int):=by
 rw [rz]; intro hb; have:=qC n b hb; omega
theorem mG {n:Nat} (h:n≤9223372036854775807):(Lib.itoa (n:Int)).length≤21:=Lib.itoa_length_le _ (by omega) (by omega)
def iF (c:UInt8):Bool:=decide (32≤c.toNat) && decide (c.toNat≤126) && c != 35
def bQ (l:List UInt8):Bool:=l.all iF
theorem lC {l:List UInt8} (h:bQ l=true):(35:UInt8) ∉ l:=fun hm=>by
 have:=List.all_eq_true.1 h _ hm; simp [iF] at this
theorem nO {l:List UInt8} (h:bQ l=true):(10:UInt8) ∉ l:=fun hm=>by
 have:=List.all_eq_true.1 h _ hm; simp [iF] at this
def fF (c r:List UInt8):Bool:=decide (1≤c.length) && decide (c.length≤160) && bQ c && !c.contains 64 && bQ r && decide (r.length≤200)
theorem cP {c r:List UInt8} : fF c r=true ↔ 1≤c.length∧c.length≤160∧bQ c=true∧(64:UInt8) ∉ c∧bQ r=true∧r.length≤200:=by
 unfold fF; simp [Bool.and_eq_true,and_assoc]
def fI:Nat→List UInt8→Nat
 | h,[]=>h
 | h,c :: l=>fI ((41 * h+c.toNat+1) % 999979) l
theorem lD:∀ (l:List UInt8) (h:Nat),h < 999979→fI h l < 999979
 | [],_,h=>h
 | _ :: l,_,_=>lD l _ (Nat.mod_lt _ (by omega))
def ib (l:List UInt8):Nat:=fI 7 l
theorem m8 (l:List UInt8):ib l < 999979:=lD l 7 (by omega)
def dO (t:List UInt8):List UInt8:=t++35 :: Lib.itoa (ib t)
theorem jC (t:List UInt8):(dO t).length≤t.length+22:=by
 have:=mG (n:=ib t) (by have:=m8 t; omega)
 unfold dO; simp; omega
theorem fT {t:List UInt8} (h:(35:UInt8) ∉ t):dt 35 (dO t)=t:=eV h
theorem qD (t:List UInt8):Lib.lastIndex (dO t) [35]=t.length:=m7 (iU (by decide))
def eW (k:Nat) (c r:List UInt8):List UInt8:=Lib.itoa (k:Int)++[32]++c++[64]++r
def co (k:Nat) (c r:List UInt8):List UInt8:=dO (eW k c r)++[10]
theorem fU {k:Nat} {c r:List UInt8} (h:fF c r=true):(35:UInt8) ∉ eW k c r:=by
 obtain ⟨_,_,h1,_,h2,_⟩:=cP.1 h
 have a:=iU (n:=k) (b:=35) (by decide)
 have b:=lC h1
 have d:=lC h2
 unfold eW; simp [a,b,d]
theorem lv {k:Nat} {c r:List UInt8} (h:fF c r=true) (hk:k≤9223372036854775807):(eW k c r).length≤383:=by
 obtain ⟨_,h1,_,_,_,h2⟩:=cP.1 h
 have:=mG hk
 unfold eW; simp; omega
theorem lE {k:Nat} {c r:List UInt8} (h:fF c r=true) (hk:k≤9223372036854775807):(co k c r).length≤406:=by
 have:=lv h hk
 have:=jC (eW k c r)
 unfold co; simp; omega
theorem sc {k:Nat} {c r:List UInt8} (h:fF c r=true):(10:UInt8) ∉ dO (eW k c r):=by
 obtain ⟨_,_,h1,_,h2,_⟩:=cP.1 h
 have a:=iU (n:=k) (b:=10) (by decide)
 have a':=iU (n:=ib (eW k c r)) (b:=10) (by decide)
 have b:=nO h1
 have d:=nO h2
 unfold dO
 simp only [List.mem_append,List.mem_cons,not_or]
 refine ⟨?_,by decide,a'⟩
 unfold eW; simp [a,b,d]
def rA (k:Nat) (c r s:List UInt8):Prop:=fF c r=true∧dO (eW k c r)=s
theorem rA.inj {k:Nat} {c r c' r' s:List UInt8} (h:rA k c r s) (h' : rA k c' r' s):c=c'∧r=r':=by
 obtain ⟨h1,h2⟩:=h
 obtain ⟨h1',h2'⟩:=h'
 have e:eW k c r=eW k c' r':=by rw [← fT (fU h1),← fT (fU h1'),h2,h2']
 unfold eW at e
 simp only [List.append_assoc] at e
 have e2:=List.append_cancel_left (List.append_cancel_left e)
 obtain ⟨_,_,_,n,_⟩:=cP.1 h1
 obtain ⟨_,_,_,n',_⟩:=cP.1 h1'
 have a:=eV (r:=r) n
 have a':=eV (r:=r') n'
 have e3:c++64 :: r=c'++64 :: r':=e2
 rw [e3,a'] at a
 subst a
 exact ⟨rfl,by simpa using List.append_cancel_left e3⟩
open Classical in
noncomputable def dx (k:Nat) (s:List UInt8):Option (List UInt8 × List UInt8):=if h:∃ p:List UInt8 × List UInt8,rA k p.1 p.2 s then some h.choose else none
theorem ka {k:Nat} {c r s:List UInt8} (h:rA k c r s):dx k s=some (c,r):=by
 have hex:∃ p:List UInt8 × List UInt8,rA k p.1 p.2 s:=⟨(c,r),h⟩
 unfold dx
 rw [dif_pos hex]
 obtain ⟨e1,e2⟩:=hex.choose_spec.inj h
 exact congrArg some (Prod.ext e1 e2)
theorem fh {k:Nat} {s:List UInt8} (h:∀ c r,¬ rA k c r s):dx k s=none:=by
 unfold dx
 rw [dif_neg (fun ⟨p,hp⟩=>h _ _ hp)]
theorem nP {k:Nat} {c r s:List UInt8} (h:dx k s=some (c,r)):rA k c r s:=by
 by_cases hex:∃ p:List UInt8 × List UInt8,rA k p.1 p.2 s
 ·unfold dx at h
  rw [dif_pos hex] at h
  have:=hex.choose_spec
  rw [Option.some.inj h] at this
  exact this
 ·unfold dx at h
  rw [dif_neg hex] at h; cases h
def nJ (t s:List UInt8):Prop:=(35:UInt8) ∉ t∧dO t=s∧t.length≤4000∧s.length≤4000
theorem nJ.inj {t t' s:List UInt8} (h:nJ t s) (h' : nJ t' s):t=t':=by
 rw [← fT h.1,← fT h'.1,h.2.1,h'.2.1]
theorem rA.ver {k:Nat} {c r s:List UInt8} (h:rA k c r s) (hk:k≤9223372036854775807):nJ (eW k c r) s:=by
 refine ⟨fU h.1,h.2,by have:=lv h.1 hk; omega, ?_⟩
 rw [← h.2]; have:=lv h.1 hk; have:=jC (eW k c r); omega
theorem pc {k:Nat} {s:List UInt8} (hk:k≤9223372036854775807) (h:∀ t,¬ nJ t s):dx k s=none:=fh fun _ _ he=>h _ (he.ver hk)
theorem pd {k:Nat} {s t:List UInt8} (hk:k≤9223372036854775807) (hv:nJ t s) (h : ¬ (Lib.itoa (k:Int)++[32]) <+: t):dx k s=none:=fh fun c r he=>h (by
 rw [hv.inj (he.ver hk)]
 exact ⟨c++[64]++r,by unfold eW; simp⟩)
theorem qE {k:Nat} {s t u:List UInt8} (hk:k≤9223372036854775807) (hv:nJ t s) (ht:t=Lib.itoa (k:Int)++[32]++u) (h:(64:UInt8) ∉ u):dx k s=none:=fh fun c r he=>h (by
 have e:=hv.inj (he.ver hk)
 rw [ht] at e
 unfold eW at e
 simp only [List.append_assoc] at e
 have:=List.append_cancel_left (List.append_cancel_left e)
 rw [this]; simp)
theorem nQ {k:Nat} {s t c r:List UInt8} (hk:k≤9223372036854775807) (hv:nJ t s) (ht:t=Lib.itoa (k:Int)++[32]++(c++64 :: r)) (hc:(64:UInt8) ∉ c) :
  dx k s=if fF c r=true then some (c,r) else none:=by
 have e0:eW k c r=t:=by rw [ht]; unfold eW; simp
 split
 ·rename_i h; exact ka ⟨h,by rw [e0]; exact hv.2.1⟩
 ·rename_i h
  refine fh fun c' r' he=>h ?_
  have e:=hv.inj (he.ver hk)
  rw [← e0] at e
  unfold eW at e
  simp only [List.append_assoc] at e
  have e2:=List.append_cancel_left (List.append_cancel_left e)
  have e3:c++64 :: r=c'++64 :: r':=e2
  obtain ⟨_,_,_,n',_⟩:=cP.1 he.1
  have a:=eV (r:=r) hc
  rw [e3,eV n'] at a
  subst a
  have:r=r':=by simpa using List.append_cancel_left e3
  subst this
  exact he.1
theorem m9 {k:Nat} {s:List UInt8} (h : ¬ (Lib.itoa (k:Int)++[32]) <+: dt 35 s):dx k s=none:=fh fun c r he=>h (by
 rw [← he.2,fT (fU he.1)]
 exact ⟨c++[64]++r,by unfold eW; simp⟩)
theorem nR {k:Nat} {s u:List UInt8} (ht:dt 35 s=Lib.itoa (k:Int)++[32]++u) (h:(64:UInt8) ∉ u):dx k s=none:=fh fun c r he=>h (by
 rw [← he.2,fT (fU he.1)] at ht
 unfold eW at ht
 simp only [List.append_assoc] at ht
 have:=List.append_cancel_left (List.append_cancel_left ht)
 rw [← this]; simp)
theorem na {k:Nat} {s c r:List UInt8} (ht:dt 35 s=Lib.itoa (k:Int)++[32]++(c++64 :: r)) (hc:(64:UInt8) ∉ c) :
  dx k s=if fF c r=true∧co k c r=s++[10] then some (c,r) else none:=by
 split
 ·rename_i h; exact ka ⟨h.1,List.append_cancel_right h.2⟩
 ·rename_i h
  refine fh fun c' r' he=>h ?_
  have e:=ht
  rw [← he.2,fT (fU he.1)] at e
  unfold eW at e
  simp only [List.append_assoc] at e
  have e2:=List.append_cancel_left (List.append_cancel_left e)
  have e3:c'++64 :: r'=c++64 :: r:=e2
  obtain ⟨_,_,_,n',_⟩:=cP.1 he.1
  have a:=eV (r:=r) hc
  rw [← e3,eV n'] at a
  subst a
  have:r'=r:=by simpa using List.append_cancel_left e3
  subst this
  exact ⟨he.1,by unfold co; rw [he.2]⟩
noncomputable def aT:Nat→Nat→List UInt8→List ((List UInt8 × List UInt8) × Nat)
 | 0,_,_=>[]
 | n+1,k,s=>if (10:UInt8) ∈ s then
   match dx k (dt 10 s) with
   | none=>[]
   | some e=>(e,(dt 10 s).length+1) :: aT n (k+1) (s.drop ((dt 10 s).length+1))
  else []
def dy (l:List ((List UInt8 × List UInt8) × Nat)):Nat:=(l.map (·.2)).sum
theorem fO (e:(List UInt8 × List UInt8) × Nat) (l:List ((List UInt8 × List UInt8) × Nat)):dy (e :: l)=e.2+dy l:=by simp [dy]
theorem dU {n k:Nat} {s:List UInt8} (h:(10:UInt8) ∉ s):aT n k s = []:=by cases n <;> simp [aT,h]
theorem ee {n k:Nat} {s:List UInt8} (h:dx k (dt 10 s)=none):aT n k s = []:=by cases n <;> simp [aT,h]
theorem dz {n k:Nat} {s:List UInt8} {e:List UInt8 × List UInt8} (h1:(10:UInt8) ∈ s) (h2:dx k (dt 10 s)=some e) :
  aT (n+1) k s=(e,(dt 10 s).length+1) :: aT n (k+1) (s.drop ((dt 10 s).length+1)):=by simp [aT,h1,h2]
theorem ic:∀ (n k:Nat) (s:List UInt8),dy (aT n k s)≤s.length
 | 0,_,_=>by simp [aT,dy]
 | n+1,k,s=>by
  by_cases h1:(10:UInt8) ∈ s
  ·cases h2:dx k (dt 10 s) with
   | none=>rw [ee h2]; simp [dy]
   | some e =>
    rw [dz h1 h2,fO]
    have:=ic n (k+1) (s.drop ((dt 10 s).length+1))
    have h3:=congrArg List.length (df h1)
    simp at this h3
    simp only
    omega
  ·rw [dU h1]; simp [dy]
theorem dh:∀ (n k:Nat) (s:List UInt8),(aT n k s).length≤n
 | 0,_,_=>by simp [aT]
 | n+1,k,s=>by
  by_cases h1:(10:UInt8) ∈ s
  ·cases h2:dx k (dt 10 s) with
   | none=>rw [ee h2]; simp
   | some e=>rw [dz h1 h2,List.length_cons]; have:=dh n (k+1) (s.drop ((dt 10 s).length+1)); omega
  ·rw [dU h1]; simp
theorem kI:∀ (n k:Nat) (s:List UInt8),n+k≤1000→dy (aT n k s)≤406 * n
 | 0,_,_,_=>by simp [aT,dy]
 | n+1,k,s,h=>by
  by_cases h1:(10:UInt8) ∈ s
  ·cases h2:dx k (dt 10 s) with
   | none=>rw [ee h2]; simp [dy]
   | some e =>
    rw [dz h1 h2,fO]
    have:=kI n (k+1) (s.drop ((dt 10 s).length+1)) (by omega)
    obtain ⟨c,r⟩:=e
    have he:=nP h2
    have hl:=lE (k:=k) he.1 (by omega)
    unfold co at hl; rw [he.2] at hl; simp at hl
    simp only
    omega
  ·rw [dU h1]; simp [dy]
def di:Nat→List ((List UInt8 × List UInt8) × Nat)→List Nat
 | a,[]=>[a]
 | a,e :: l=>a :: di (a+e.2) l
theorem rB (a:Nat) (l:List ((List UInt8 × List UInt8) × Nat)):di a l ≠ []:=by cases l <;> simp [di]
theorem ie:∀ (a:Nat) (l:List ((List UInt8 × List UInt8) × Nat)),(di a l).length=l.length+1
 | _,[]=>rfl
 | a,_ :: l=>by simp [di,ie (a+_) l]
theorem lF:∀ (a:Nat) (l:List ((List UInt8 × List UInt8) × Nat)) (e:(List UInt8 × List UInt8) × Nat),di a (l++[e])=di a l++[a+dy l+e.2]
 | a,[],e=>by simp [di,dy]
 | a,x :: l,e=>by simp [di,lF (a+x.2) l e,fO,Nat.add_assoc]
theorem lG:∀ (a:Nat) (l:List ((List UInt8 × List UInt8) × Nat)),(di a l)[l.length]?=some (a+dy l)
 | _,[]=>by simp [di,dy]
 | a,x :: l=>by simp [di,lG (a+x.2) l,fO,Nat.add_assoc]
theorem nS:∀ (a:Nat) (l:List ((List UInt8 × List UInt8) × Nat)) (x:Nat),x ∈ di a l→a≤x
 | a,[],x,h=>by simp [di] at h; omega
 | a,e :: l,x,h=>by
  simp only [di,List.mem_cons] at h
  rcases h with h | h
  ·omega
  ·have:=nS (a+e.2) l x h; omega
theorem nT:∀ (n k a:Nat) (D P:List UInt8),a+D.length ∈ di a (aT n k (D++P)) ↔ dy (aT n k D)=D.length
 | 0,k,a,D,P=>by simp only [aT,di,dy,List.map_nil,List.sum_nil,List.mem_singleton]; omega
 | n+1,k,a,D,P=>by
  by_cases hD:D.length=0
  ·have:D = []:=List.eq_nil_of_length_eq_zero hD
   subst this
   rw [dU (s:=[]) (by simp)]
   constructor
   ·intro _; rfl
   ·intro _
    have:di a (aT (n+1) k ([]++P)) ≠ []:=rB _ _
    cases h:aT (n+1) k ([]++P) <;> simp [di]
  ·by_cases h1:(10:UInt8) ∈ D
   ·have e1:=df h1
    have h1' : (10:UInt8) ∈ D++P:=by simp [h1]
    have hb:dt 10 (D++P)=dt 10 D:=by
     rw (occs:=[1]) [e1]
     rw [List.append_assoc,List.cons_append]; exact eV (fH 10 D)
    have hlen:(dt 10 D).length+1≤D.length:=by have:=congrArg List.length e1; simp at this; omega
    cases h2:dx k (dt 10 D) with
    | none =>
     rw [ee (by rw [hb]; exact h2),ee h2]
     simp only [di,dy,List.map_nil,List.sum_nil,List.mem_singleton]; omega
    | some e =>
     rw [dz h1' (by rw [hb]; exact h2),dz h1 h2,hb]
     have e2:(D++P).drop ((dt 10 D).length+1)=D.drop ((dt 10 D).length+1)++P:=List.drop_append_of_le_length hlen
     rw [e2,fO]
     simp only [di,List.mem_cons]
     have ih:=nT n (k+1) (a+((dt 10 D).length+1)) (D.drop ((dt 10 D).length+1)) P
     rw [List.length_drop] at ih
     have e3:a+((dt 10 D).length+1)+(D.length - ((dt 10 D).length+1))=a+D.length:=by omega
     rw [e3] at ih
     constructor
     ·rintro (h | h)
      ·omega
      ·have:=ih.1 h; omega
     ·intro h
      exact .inr (ih.2 (by omega))
   ·rw [dU h1]
    simp only [dy,List.map_nil,List.sum_nil]
    constructor
    ·intro h
     exfalso
     by_cases h3:(10:UInt8) ∈ D++P
     ·cases h2:dx k (dt 10 (D++P)) with
      | none=>rw [ee h2] at h; simp only [di,List.mem_singleton] at h; omega
      | some e =>
       rw [dz h3 h2] at h
       simp only [di,List.mem_cons] at h
       rcases h with h | h
       ·omega
       ·have:=nS _ _ _ h
        have hge:D.length≤(dt 10 (D++P)).length:=by
         rcases Nat.lt_or_ge (dt 10 (D++P)).length D.length with hlt | hge
         ·exfalso
          have e4:=df h3
          have h5:(D++P)[(dt 10 (D++P)).length]?=some 10:=by rw (occs:=[1]) [e4]; simp
          rw [List.getElem?_append_left hlt] at h5
          exact h1 (List.mem_of_getElem? h5)
         ·exact hge
        omega
     ·rw [dU h3] at h; simp only [di,List.mem_singleton] at h; omega
    ·intro h; omega
noncomputable def qb (D P:List UInt8) (n:Int):Bool :=
 decide (dy (aT 60 0 (D++P))=D.length+P.length) && decide (dy (aT 60 0 D)=D.length) && decide (((aT 60 0 (D++P)).length:Int)=n)
theorem gA {D P:List UInt8} (h:dy (aT 60 0 (D++P))=D.length+P.length):D.length+P.length≤30000:=by
 have:=kI 60 0 (D++P) (by omega); omega
theorem dA {D P:List UInt8} {n:Int} : qb D P n=true ↔ dy (aT 60 0 (D++P))=D.length+P.length∧dy (aT 60 0 D)=D.length∧((aT 60 0 (D++P)).length:Int)=n:=by
 unfold qb; simp [Bool.and_eq_true,and_assoc]
theorem pf {D P:List UInt8} {n:Int} : qb D P n=true ↔ dy (aT 60 0 (D++P))=D.length+P.length∧D.length ∈ di 0 (aT 60 0 (D++P))∧n=((aT 60 0 (D++P)).length:Int):=by
 have:=nT 60 0 0 D P
 rw [Nat.zero_add] at this
 rw [dA,this]
 constructor <;> (rintro ⟨h1,h2,h3⟩; exact ⟨h1,h2,h3.symm⟩)
end Go.Proofs.YtoeoimhemojdeaaGreatDoor
namespace Go.Proofs.YtoeoimhemojdeaaGreatDoor
def cp (b:UInt8):List UInt8→List UInt8→List (List UInt8)
 | cur,[]=>[cur]
 | cur,x :: l=>if x=b then cur :: cp b [] l else cp b (cur++[x]) l
def aG (b:UInt8) (s:List UInt8):List (List UInt8):=cp b [] s
theorem lH {b:UInt8} : ∀ {l cur:List UInt8},b ∉ l→cp b cur l = [cur++l]
 | [],_,_=>by simp [cp]
 | x :: l,cur,h=>by
  simp only [List.mem_cons,not_or] at h
  rw [cp,if_neg (Ne.symm h.1),lH h.2]; simp
theorem mH {b:UInt8} {r:List UInt8} : ∀ {t cur:List UInt8},b ∉ t→cp b cur (t++b :: r)=(cur++t) :: cp b [] r
 | [],_,_=>by simp [cp]
 | x :: t,cur,h=>by
  simp only [List.mem_cons,not_or] at h
  rw [List.cons_append,cp,if_neg (Ne.symm h.1),mH h.2]; simp
theorem jq {b:UInt8} {l:List UInt8} (h:b ∉ l):aG b l = [l]:=by unfold aG; rw [lH h]; rfl
theorem mI {b:UInt8} {t r:List UInt8} (h:b ∉ t):aG b (t++b :: r)=t :: aG b r:=by unfold aG; rw [mH h]; rfl
theorem jD (b:UInt8):∀ (l cur:List UInt8),cp b cur l ≠ []
 | [],_=>by simp [cp]
 | x :: l,cur=>by
  unfold cp; split
  ·simp
  ·exact jD b l _
theorem fi (b:UInt8):∀ (l cur:List UInt8),(cp b cur l).length≤l.length+1
 | [],_=>by simp [cp]
 | x :: l,cur=>by
  unfold cp; split
  ·have:=fi b l []; simp; omega
  ·have:=fi b l (cur++[x]); simp; omega
theorem kb {b:UInt8} {t:List UInt8} : ∀ (l cur:List UInt8),t ∈ cp b cur l→t.length≤cur.length+l.length
 | [],cur,h=>by simp only [cp,List.mem_singleton] at h; subst h; simp
 | x :: l,cur,h=>by
  unfold cp at h; split at h
  ·rcases List.mem_cons.1 h with h | h
   ·subst h; omega
   ·have:=kb l [] h; simp at this ⊢; omega
  ·have:=kb l _ h; simp at this ⊢; omega
theorem fV (b:UInt8) (s:List UInt8):∃ ps,aG b s=dt b s :: ps∧(ps = [] ↔ b ∉ s):=by
 rcases jp b s with ⟨h1,h2⟩ | ⟨r,h⟩
 ·exact ⟨[],by rw [jq h1,h2],by simp [h1]⟩
 ·refine ⟨aG b r, ?_, ?_⟩
  ·have h1:=mI (r:=r) (fH b s)
   rw [← h] at h1; exact h1
  ·constructor
   ·intro e; exact absurd e (jD b r [])
   ·intro hn; exact absurd (by rw [h]; simp) hn
end Go.Proofs.YtoeoimhemojdeaaGreatDoor
namespace Go.Proofs.YtoeoimhemojdeaaGreatDoor
open Go.RowKit
structure ao (B:Nat) (w:World) where
 val:World
 below:Below B w val
theorem ao.cell {B:Nat} {w:World} (p:ao B w) {a:Addr} (h:a.block < B):p.val.cell? a=w.cell? a:=p.below.cell h
theorem ao.size {B:Nat} {w:World} (p:ao B w):w.heap.size≤p.val.heap.size:=p.below.size
def ao.start (B:Nat) (w:World):ao B w:=⟨w,Below.refl B w⟩
instance ao.any (B:Nat) (w:World):Inhabited (ao B w):=⟨ao.start B w⟩
def ao.go {B:Nat} {w:World} (p:ao B w) {w' : World} (hB:B≤w.heap.size) (h:Below p.val.heap.size p.val w'):ao B w :=
 ⟨w',p.below.trans (h.mono (Nat.le_trans hB p.size))⟩
def ao.go' {B:Nat} {w:World} (p:ao B w) {w' : World} (h:Below B p.val w'):ao B w:=⟨w',p.below.trans h⟩
theorem bc {P:Program} {id:Nat} {Q:Exit→Act→World→Prop} {a:Act} {B:Nat} {w:World} {l:List Oper} (p:ao B w) (hm:P.follows .mixedOrders=true) (hB:Region.lexB .any l.toArray=true)
  (h:wpQuiet P l.toArray (fun w'=>∃ q:ao B w,w'=q.val) (fun a'=>∀ w',(∃ q:ao B w,w'=q.val)→Q .normal a' w') l a):(Code.region id l.toArray true).wp P Q a p.val :=
 wp_region_quiet (C:=fun w'=>∃ q:ao B w,w'=q.val) hm hB ⟨⟨_,p.below.drew⟩,rfl⟩ (by simpa using h)
theorem au {P:Program} {id:Nat} {Q:Exit→Act→World→Prop} {a:Act} {w:World} {l:List Oper} (hm:P.follows .mixedOrders=true) (hB:Region.lexB .any l.toArray=true)
  (h:wpQuiet P l.toArray (fun w'=>∃ q:ao w.heap.size w,w'=q.val) (fun a'=>∀ w',(∃ q:ao w.heap.size w,w'=q.val)→Q .normal a' w') l a):(Code.region id l.toArray true).wp P Q a w :=
 bc (ao.start w.heap.size w) hm hB h
theorem aK {P:Program} {f:FuncId} {args:Array Value} {B:Nat} {w:World} {q:ao B w} {v:Value} (hB:B≤w.heap.size)
  (h:Calls P f args q.val fun e w'=>e=.returned v∧Below q.val.heap.size q.val w'):Calls P f args q.val fun e w'=>e=.returned v∧∃ q' : ao B w,w'=q'.val :=
 h.mono fun _ _ ⟨he,hb⟩=>⟨he,q.go hB hb,rfl⟩
theorem pg {P:Program} {f:FuncId} {args:Array Value} {B:Nat} {w:World} {q:ao B w} {v:Value}
  (h:Calls P f args q.val fun e w'=>e=.returned v∧q.val=w'):Calls P f args q.val fun e w'=>e=.returned v∧∃ q' : ao B w,w'=q'.val :=
 h.mono fun _ _ ⟨he,hb⟩=>⟨he,q,hb.symm⟩
theorem ay {P:Program} {f:FuncId} {args:Array Value} {B:Nat} {w:World} {q:ao B w} {b b' : Bool} (hb:Hid (b=b'))
  (h:Calls P f args q.val fun e w'=>e=.returned (.bool b)∧q.val=w'):Calls P f args q.val fun e w'=>e=.returned (.bool b')∧∃ q' : ao B w,w'=q'.val:=by
 have:=hb.out; subst this; exact pg h
theorem ar {a b c:World} (h:Below a.heap.size a b) (k:Below b.heap.size b c):Below a.heap.size a c:=h.trans (k.mono h.size)
theorem aU {P:Program} {f:FuncId} {args:Array Value} {W:World} {v:Value}
  (h:Calls P f args W fun e w'=>e=.returned v∧Below W.heap.size W w'):Calls P f args W fun e w'=>e=.returned v∧∃ q' : ao W.heap.size W,w'=q'.val :=
 h.mono fun _ _ ⟨he,hb⟩=>⟨he,⟨_,hb⟩,rfl⟩
structure br (w:World) (B k:Nat) (A:Option Addr) (n:Nat) (cs:List Value):Prop where
 len:cs.length=n * k
 big:n≤9223372036854775807
 at_:0 < n→∃ b off,A=some ⟨b,off,none⟩∧b < B∧∀ j u,cs[j]?=some u→w.cell? ⟨b,off+j,none⟩=some u
theorem br.keep {w w' : World} {B k n:Nat} {A:Option Addr} {cs:List Value} (h:br w B k A n cs) (hk:∀ p:Addr,p.block < B→w'.cell? p=w.cell? p):br w' B k A n cs :=
 ⟨h.len,h.big,fun hn=>by
  obtain ⟨b,off,e,hb,hc⟩:=h.at_ hn
  exact ⟨b,off,e,hb,fun j u hu=>(hk _ hb).trans (hc j u hu)⟩⟩
theorem br.below {w w' : World} {B k n:Nat} {A:Option Addr} {cs:List Value} (h:br w B k A n cs) (hb:Below B w w'):br w' B k A n cs:=h.keep fun _ hp=>hb.cell hp
theorem br.mono {w:World} {B B' k n:Nat} {A:Option Addr} {cs:List Value} (h:br w B k A n cs) (hB:B≤B'):br w B' k A n cs :=
 ⟨h.len,h.big,fun hn=>by
  obtain ⟨b,off,e,hb,hc⟩:=h.at_ hn
  exact ⟨b,off,e,by omega,hc⟩⟩
theorem br.up {w w' : World} {B k n:Nat} {A:Option Addr} {cs:List Value} (h:br w B k A n cs) (hb:Below B w w') (hB:B≤w.heap.size):br w' w'.heap.size k A n cs :=
 (h.below hb).mono (Nat.le_trans hB hb.size)
theorem br.then {w w' : World} {k n:Nat} {A:Option Addr} {cs:List Value} (h:br w w.heap.size k A n cs) (hb:Below w.heap.size w w'):br w' w'.heap.size k A n cs:=(h.below hb).mono hb.size
theorem br.nil (w:World) (B k:Nat) (A:Option Addr):br w B k A 0 []:=⟨by simp,by omega,fun h=>absurd h (by omega)⟩
theorem ig {α:Type} (enc:α→List Value) (k:Nat) (hk:∀ x,(enc x).length=k):∀ (l:List α) (i:Nat) (h:i < l.length) (j:Nat),j < k→(l.flatMap enc)[i * k+j]?=(enc l[i])[j]?
 | x :: l,0,_,j,hj=>by
  simp only [List.flatMap_cons,Nat.zero_mul,Nat.zero_add,List.getElem_cons_zero]
  rw [List.getElem?_append_left (by rw [hk]; exact hj)]
 | x :: l,i+1,h,j,hj=>by
  have e:(i+1) * k+j=(enc x).length+(i * k+j):=by rw [hk,Nat.succ_mul]; omega
  simp only [List.flatMap_cons,List.getElem_cons_succ]
  rw [e,List.getElem?_append_right (by omega),Nat.add_sub_cancel_left]
  exact ig enc k hk l i (by simpa using h) j hj
theorem fx {α:Type} (enc:α→List Value) (k:Nat) (hk:∀ x,(enc x).length=k):∀ l:List α,(l.flatMap enc).length=l.length * k
 | []=>by simp
 | x :: l=>by simp only [List.flatMap_cons,List.length_append,fx enc k hk l,hk,List.length_cons,Nat.succ_mul]; omega
def ai (w:World) (g:Nat) (t:TypeId) (cs:List Value):Prop:=w.heap[g]?=some (.cells cs.toArray t (0,0))
section
variable {w w' : World} {g:Nat} {t:TypeId} {cs:List Value}
theorem ai.lt (h:ai w g t cs):g < w.heap.size:=by
 rcases Nat.lt_or_ge g w.heap.size with hlt | hge
 ·exact hlt
 ·unfold ai at h; rw [Array.getElem?_eq_none hge] at h; cases h
theorem ai.cell (h:ai w g t cs) (i:Nat):w.cell? ⟨g,i,none⟩=cs[i]?:=by rw [cell_of_row w g i _ t (0,0) h]; simp
theorem ai.frozen (h:ai w g t cs) (i:Nat):w.frozen? ⟨g,i,none⟩=false:=frozen_of_row w g i _ t h
theorem ai.below {B:Nat} (h:ai w g t cs) (hb:Below B w w') (hg:g < B):ai w' g t cs:=(hb.block g hg).trans h
theorem ai.kept {row:Option Nat} (h:ai w g t cs) (hb:w.grownBy w' row) (hg:some g ≠ row):ai w' g t cs:=(hb.block g h.lt hg).trans h
theorem ai.alloc (h:ai w g t cs) (o:Obj):ai (w.alloc o) g t cs:=(Below.heap_alloc w o g h.lt).trans h
theorem ai.set (h:ai w g t cs) (i:Nat) (u:Value):ai (w.setCell ⟨g,i,none⟩ u) g t (cs.set i u):=by
 have:=heap_setCell_same w g i cs.toArray t u h
 unfold ai; rw [this]; simp
theorem ai.other (h:ai w g t cs) {p:Addr} (hp:g ≠ p.block) (u:Value):ai (w.setCell p u) g t cs:=(Below.heap_setCell w p u g hp).trans h
theorem ai.reads {k n:Nat} (h:ai w g t cs) (hl:cs.length=n * k) (hn:n≤9223372036854775807):br w w.heap.size k (some ⟨g,0,none⟩) n cs :=
 ⟨hl,hn,fun _=>⟨g,0,rfl,h.lt,fun j u hu=>by rw [Nat.zero_add,h.cell]; exact hu⟩⟩
end
theorem ai.new (w:World) (t:TypeId) (cs:Array Value):ai (w.alloc (.cells cs t)) w.heap.size t cs.toList:=heap_alloc_new w _
theorem ai.of {w:World} {g:Nat} {t:TypeId} {cs:Array Value} (h:w.heap[g]?=some (.cells cs t (0,0))):ai w g t cs.toList:=h
theorem ai.own {w:World} {g:Nat} {t:TypeId} {cs:List Value} (h:ai w g t cs) {B k n:Nat} (hB:B≤g) (hl:cs.length=n * k) (hn:n≤maxLen):w.ownsRow B t k (F (some ⟨g,0,none⟩) n n) n cs:=by
 refine ⟨hl,Or.inr ⟨g,n,_,rfl,hB,h,Nat.le_refl _,hn,by simpa using hl, ?_⟩⟩
 simp only
 exact List.take_of_length_le (by omega)
def aV (cs:List Value) (i:Nat) (vs:List Value):List Value:=cs.take i++vs++cs.drop (i+vs.length)
theorem sA {α:Type _} (l:List α) (i:Nat) (a:α):l.toArray.setIfInBounds i a=(l.set i a).toArray:=by simp
theorem s0 {α:Type _} {x y:α} {l:List α}:(x::l).set 0 y=y::l:=List.set_cons_zero
theorem s1 {α:Type _} {x y:α} {l:List α} {n:Nat}:(x::l).set (n+1) y=x::l.set n y:=List.set_cons_succ
theorem bR {p:Prop} {B:Nat} {w:World} (_:p):Below B w w:=Below.refl _ _
theorem cells4 {w:World} {g:Nat} {t:TypeId} {a0 a1 a2 a3:Value} {r:List Value} (h:ai w g t (a0::a1::a2::a3::r)):w.cell? ⟨g,0,none⟩=some a0∧w.cell? ⟨g,1,none⟩=some a1∧w.cell? ⟨g,2,none⟩=some a2∧w.cell? ⟨g,3,none⟩=some a3:=⟨h.cell 0,h.cell 1,h.cell 2,h.cell 3⟩
theorem frz4 {w:World} {g:Nat} {t:TypeId} {cs:List Value} (h:ai w g t cs):w.frozen? ⟨g,0,none⟩=false∧w.frozen? ⟨g,1,none⟩=false∧w.frozen? ⟨g,2,none⟩=false∧w.frozen? ⟨g,3,none⟩=false:=⟨h.frozen 0,h.frozen 1,h.frozen 2,h.frozen 3⟩
theorem cells5 {w:World} {g:Nat} {t:TypeId} {a0 a1 a2 a3 a4:Value} {r:List Value} (h:ai w g t (a0::a1::a2::a3::a4::r)):w.cell? ⟨g,0,none⟩=some a0∧w.cell? ⟨g,1,none⟩=some a1∧w.cell? ⟨g,2,none⟩=some a2∧w.cell? ⟨g,3,none⟩=some a3∧w.cell? ⟨g,4,none⟩=some a4:=⟨h.cell 0,h.cell 1,h.cell 2,h.cell 3,h.cell 4⟩
theorem frz5 {w:World} {g:Nat} {t:TypeId} {cs:List Value} (h:ai w g t cs):w.frozen? ⟨g,0,none⟩=false∧w.frozen? ⟨g,1,none⟩=false∧w.frozen? ⟨g,2,none⟩=false∧w.frozen? ⟨g,3,none⟩=false∧w.frozen? ⟨g,4,none⟩=false:=⟨h.frozen 0,h.frozen 1,h.frozen 2,h.frozen 3,h.frozen 4⟩
theorem cells8 {w:World} {g:Nat} {t:TypeId} {a0 a1 a2 a3 a4 a5 a6 a7:Value} {r:List Value} (h:ai w g t (a0::a1::a2::a3::a4::a5::a6::a7::r)):w.cell? ⟨g,0,none⟩=some a0∧w.cell? ⟨g,1,none⟩=some a1∧w.cell? ⟨g,2,none⟩=some a2∧w.cell? ⟨g,3,none⟩=some a3∧w.cell? ⟨g,4,none⟩=some a4∧w.cell? ⟨g,5,none⟩=some a5∧w.cell? ⟨g,6,none⟩=some a6∧w.cell? ⟨g,7,none⟩=some a7:=⟨h.cell 0,h.cell 1,h.cell 2,h.cell 3,h.cell 4,h.cell 5,h.cell 6,h.cell 7⟩
theorem frz8 {w:World} {g:Nat} {t:TypeId} {cs:List Value} (h:ai w g t cs):w.frozen? ⟨g,0,none⟩=false∧w.frozen? ⟨g,1,none⟩=false∧w.frozen? ⟨g,2,none⟩=false∧w.frozen? ⟨g,3,none⟩=false∧w.frozen? ⟨g,4,none⟩=false∧w.frozen? ⟨g,5,none⟩=false∧w.frozen? ⟨g,6,none⟩=false∧w.frozen? ⟨g,7,none⟩=false:=⟨h.frozen 0,h.frozen 1,h.frozen 2,h.frozen 3,h.frozen 4,h.frozen 5,h.frozen 6,h.frozen 7⟩
def bI (n lo hi:Int):Bool:=decide (lo≤n) && decide (n≤hi)
theorem bH {n lo hi:Int} : bI n lo hi=true ↔ lo≤n∧n≤hi:=by simp [bI]
theorem aE (n lo hi:Int) (w:World):Calls Tryz.prog 134 #[O U n,O U lo,O U hi] w fun e w'=>e=.returned (.bool (bI n lo hi))∧w=w':=by
 go_enter Tryz.func134,Tryz.ntmps134
 go_wp2
 all_goals (go_ret; exact ⟨by simp [bI, *]; try omega,rfl⟩)
theorem aI (n lo hi:Int) (w:World):Calls Tryz.prog 75 #[O U n,O U lo,O U hi] w fun e w'=>e=.returned (.bool (bI n lo hi))∧w=w':=by
 go_enter Tryz.func75,Tryz.ntmps75
 go_wp2
 all_goals (go_ret; exact ⟨by simp [bI, *]; try omega,rfl⟩)
abbrev bv (l:List Int):List Value:=l.map (Value.int .i64)
abbrev jf (w:World) (B:Nat) (A:Option Addr) (l:List Int):Prop:=br w B 1 A l.length (bv l)
theorem jf.ints {w:World} {B:Nat} {A:Option Addr} {l:List Int} (h:jf w B A l) (hne:0 < l.length):∃ b off,A=some ⟨b,off,none⟩∧b < B∧∀ i (hi:i < l.length) (p:ao B w),p.val.cell? ⟨b,off+i,none⟩=some (O U l[i]):=by
 obtain ⟨b,off,e,hb,hc⟩:=h.at_ hne
 exact ⟨b,off,e,hb,fun i hi p=>(p.cell hb).trans (hc i _ (by simp [hi]))⟩
def bP (w:World) (B:Nat) (t:TypeId) (k:Nat) (A:Option Addr) (n:Nat) (cs:List Value):Prop :=
 cs.length=n * k∧n≤9223372036854775807∧((A=none∧n=0) ∨ ∃ g rest,A=some ⟨g,0,none⟩∧B≤g∧ai w g t (cs++rest))
theorem bP.of {w:World} {B:Nat} {t:TypeId} {k:Nat} {A:Option Addr} {n c:Nat} {cs:List Value} (h:w.ownsRow B t k (F A n c) n cs):bP w B t k A n cs:=by
 obtain ⟨hl,h | ⟨g,cap,cur,hv,hg,hh,h1,h2,h3,h4⟩⟩:=h
 ·injection h.1 with e1 e2 e3
  exact ⟨hl,by omega,.inl ⟨e1,e2⟩⟩
 ·injection hv with e1 e2 e3
  refine ⟨hl,by unfold maxLen at h2; omega,.inr ⟨g,cur.toList.drop (n * k),e1,hg, ?_⟩⟩
  have:cs++cur.toList.drop (n * k)=cur.toList:=by rw [← h4]; exact List.take_append_drop _ _
  rw [this]
  exact ai.of hh
theorem bP.reads {w:World} {B:Nat} {t:TypeId} {k:Nat} {A:Option Addr} {n:Nat} {cs:List Value} (h:bP w B t k A n cs):br w w.heap.size k A n cs:=by
 obtain ⟨hl,hn,⟨_,h0⟩ | ⟨g,rest,hA,hg,hh⟩⟩:=h
 ·exact ⟨hl,hn,fun h=>by omega⟩
 ·exact ⟨hl,hn,fun _=>⟨g,0,hA,hh.lt,fun j u hu=>by
   rw [Nat.zero_add,hh.cell,List.getElem?_append_left (List.getElem?_eq_some_iff.1 hu).1]; exact hu⟩⟩
theorem bP.kept {w w' : World} {B:Nat} {t:TypeId} {k:Nat} {A:Option Addr} {n:Nat} {cs:List Value} (h:bP w B t k A n cs) {g:Nat} (hg:w.grownBy w' (some g)) (hlt:g < B):bP w' B t k A n cs:=by
 obtain ⟨hl,hn,h0 | ⟨g',rest,hA,hg',hh⟩⟩:=h
 ·exact ⟨hl,hn,.inl h0⟩
 ·exact ⟨hl,hn,.inr ⟨g',rest,hA,hg',hh.kept hg (by intro e; injection e with e; omega)⟩⟩
theorem bP.then {w w' : World} {B:Nat} {t:TypeId} {k:Nat} {A:Option Addr} {n:Nat} {cs:List Value} (h:bP w B t k A n cs) (hb:Below w.heap.size w w'):bP w' B t k A n cs:=by
 obtain ⟨hl,hn,h0 | ⟨g',rest,hA,hg',hh⟩⟩:=h
 ·exact ⟨hl,hn,.inl h0⟩
 ·exact ⟨hl,hn,.inr ⟨g',rest,hA,hg',hh.below hb hh.lt⟩⟩
def ramp:Int→Nat→List Int
 | _,0=>[]
 | k,n+1=>k :: ramp (k+1) n
theorem fW:∀ (k:Int) (n:Nat),(ramp k n).length=n
 | _,0=>rfl
 | k,n+1=>by simp [ramp,fW (k+1) n]
theorem ii {a w:World} {row:Option Nat} (h:a.grownBy w row) (p:Addr) (hlt:p.block < a.heap.size) (hne:some p.block ≠ row):w.cell? p=a.cell? p:=World.cell?_of_block (w:=a) (h.block p.block hlt hne)
theorem bP.held {w:World} {B:Nat} {t:TypeId} {A:Option Addr} {k0:Int} {n:Nat} (h:bP w B t 1 A n (bv (ramp k0 n))):jf w w.heap.size A (Go.Proofs.YtoeoimhemojdeaaGreatDoor.ramp k0 n):=by
 have:=h.reads
 unfold jf; rw [fW]; exact this
theorem ac {a w:World} {g i:Nat} {u:Value} (h:a.grownBy w (some g)):a.grownBy (w.setCell ⟨g,i,none⟩ u) (some g) :=
 ⟨h.os,h.tape,h.output,by simpa [World.setCell] using h.size,fun k hk hne=>(Below.heap_setCell w ⟨g,i,none⟩ u k (fun e=>hne (by rw [e]))).trans (h.block k hk hne)⟩
structure nK (lo hi:Nat) (w w' : World):Prop where
 os:w'.os=w.os
 tape:w'.tape=w.tape
 output:w'.output=w.output
 size:w.heap.size≤w'.heap.size
 block:∀ k,k < w.heap.size→(k < lo ∨ hi≤k)→w'.heap[k]?=w.heap[k]?
theorem nK.refl (lo hi:Nat) (w:World):nK lo hi w w:=⟨rfl,rfl,rfl,Nat.le_refl _,fun _ _ _=>rfl⟩
theorem nK.trans {lo hi:Nat} {a b c:World} (h:nK lo hi a b) (k:nK lo hi b c):nK lo hi a c :=
 ⟨k.os.trans h.os,k.tape.trans h.tape,k.output.trans h.output,Nat.le_trans h.size k.size,fun i hi ho=>(k.block i (Nat.lt_of_lt_of_le hi h.size) ho).trans (h.block i hi ho)⟩
theorem nK.of {lo hi:Nat} {a b:World} {row:Option Nat} (h:a.grownBy b row) (hr:∀ g,row=some g→lo≤g∧g < hi):nK lo hi a b :=
 ⟨h.os,h.tape,h.output,h.size,fun k hk ho=>h.block k hk (fun e=>by have:=hr k e.symm; omega)⟩
theorem nK.below {lo hi:Nat} {a b:World} (h:nK lo hi a b) (hlo:lo≤a.heap.size):Below lo a b :=
 ⟨h.os,h.tape,h.output,h.size,fun k hk=>h.block k (by omega) (.inl hk)⟩
theorem nK.lies {lo hi:Nat} {a b:World} (h:nK lo hi a b) {g:Nat} {t:TypeId} {cs:List Value} (hL:ai a g t cs) (ho:g < lo ∨ hi≤g):ai b g t cs:=(h.block g hL.lt ho).trans hL
theorem nK.own {lo hi:Nat} {a b:World} (h:nK lo hi a b) {B:Nat} {t:TypeId} {k:Nat} {A:Option Addr} {n:Nat} {cs:List Value} (hO:bP a B t k A n cs) (hB:hi≤B):bP b B t k A n cs:=by
 obtain ⟨hl,hn,h0 | ⟨g',rest,hA,hg',hh⟩⟩:=hO
 ·exact ⟨hl,hn,.inl h0⟩
 ·exact ⟨hl,hn,.inr ⟨g',rest,hA,hg',h.lies hh (.inr (by omega))⟩⟩
def bg {α:Type} (f:α→Bool):Nat→List α→Int
 | _,[]=>-1
 | k,x :: l=>if f x then k else bg f (k+1) l
theorem kJ {α:Type} (f:α→Bool):∀ (l:List α) (k:Nat),decide (0≤bg f k l)=l.any f
 | [],_=>rfl
 | x :: l,k=>by
  rw [bg,List.any_cons,← kJ f l (k+1)]
  cases f x <;> simp
theorem qc {α:Type} {f:α→Bool} {l:List α} {k:Nat} (h:k < l.length) (hf:f l[k]=true):bg f k (l.drop k)=k:=by
 rw [List.drop_eq_getElem_cons h,bg,hf]; rfl
theorem rC {α:Type} {f:α→Bool} {l:List α} {k:Nat} (h:k < l.length) (hf:f l[k]=false):bg f k (l.drop k)=bg f (k+1) (l.drop (k+1)):=by
 rw [List.drop_eq_getElem_cons h,bg,hf]; rfl
structure aq where
 k:Int
 c:Int
 deriving DecidableEq,Inhabited
def aq.enc (r:aq):List Value:=[O U r.k,O U r.c]
abbrev aq.val (r:aq):Value:=.agg #[O U r.k,O U r.c]
theorem aq.enc_len (r:aq):r.enc.length=2:=rfl
structure kK (B:Nat) (w:World) (b o:Nat) (r:aq):Prop where
 c0:∀ p:ao B w,p.val.cell? ⟨b,o,none⟩=some (O U r.k)
 c1:∀ p:ao B w,p.val.cell? ⟨b,o+1,none⟩=some (O U r.c)
theorem kK.up {B B' : Nat} {w W:World} {b o:Nat} {r:aq} (h:kK B w b o r) (hb:Below B w W) (hB:B≤B'):kK B' W b o r :=
 ⟨fun p=>h.c0 ⟨p.val,hb.trans (p.below.mono hB)⟩,fun p=>h.c1 ⟨p.val,hb.trans (p.below.mono hB)⟩⟩
theorem kK.of {W:World} {g:Nat} {t:TypeId} {r:aq} (h:ai W g t r.enc):kK W.heap.size W g 0 r :=
 ⟨fun p=>(p.cell h.lt).trans (h.cell 0),fun p=>(p.cell h.lt).trans (h.cell 1)⟩
abbrev eX (w:World) (B:Nat) (A:Option Addr) (l:List aq):Prop:=br w B 2 A l.length (l.flatMap aq.enc)
theorem eX.el {w:World} {B:Nat} {A:Option Addr} {l:List aq} (h:eX w B A l) (hne:0 < l.length):∃ b off,A=some ⟨b,off,none⟩∧b < B∧∀ i (hi:i < l.length),kK B w b (off+i * 2) l[i]:=by
 obtain ⟨b,off,e,hb,hc⟩:=h.at_ hne
 refine ⟨b,off,e,hb,fun i hi=>?_⟩
 have key:∀ j,j < 2→∀ u,(l[i].enc)[j]?=some u→∀ p:ao B w,p.val.cell? ⟨b,off+i * 2+j,none⟩=some u:=fun j hj u hu p=>by
  rw [p.cell hb,Nat.add_assoc]
  exact hc _ u (by rw [ig aq.enc 2 aq.enc_len l i hi j hj]; exact hu)
 exact ⟨key 0 (by omega) _ rfl,key 1 (by omega) _ rfl⟩
theorem ph {W:World} {g:Nat} {t:TypeId} {l:List aq} (h:ai W g t (l.flatMap aq.enc)) (hn:l.length≤9223372036854775807):eX W W.heap.size (some ⟨g,0,none⟩) l :=
 ai.reads h (fx aq.enc 2 aq.enc_len l) hn
theorem dj:(Tryz.prog.info? 104).map (fun i=>(i.zero,i.size,i.bytes))=some (some (.agg #[O U 0,O U 0]),2,16):=by kernel_rfl
structure ae where
 k:Int
 p:Int
 c:Int
 deriving DecidableEq,Inhabited
def ae.enc (r:ae):List Value:=[O U r.k,O U r.p,O U r.c]
abbrev ae.val (r:ae):Value:=.agg #[O U r.k,O U r.p,O U r.c]
theorem ae.enc_len (r:ae):r.enc.length=3:=rfl
structure eY (B:Nat) (w:World) (b o:Nat) (r:ae):Prop where
 c0:∀ p:ao B w,p.val.cell? ⟨b,o,none⟩=some (O U r.k)
 c1:∀ p:ao B w,p.val.cell? ⟨b,o+1,none⟩=some (O U r.p)
 c2:∀ p:ao B w,p.val.cell? ⟨b,o+2,none⟩=some (O U r.c)
theorem eY.up {B B' : Nat} {w W:World} {b o:Nat} {r:ae} (h:eY B w b o r) (hb:Below B w W) (hB:B≤B'):eY B' W b o r :=
 ⟨fun p=>h.c0 ⟨p.val,hb.trans (p.below.mono hB)⟩,fun p=>h.c1 ⟨p.val,hb.trans (p.below.mono hB)⟩,fun p=>h.c2 ⟨p.val,hb.trans (p.below.mono hB)⟩⟩
theorem eY.of {W:World} {g:Nat} {t:TypeId} {r:ae} (h:ai W g t r.enc):eY W.heap.size W g 0 r :=
 ⟨fun p=>(p.cell h.lt).trans (h.cell 0),fun p=>(p.cell h.lt).trans (h.cell 1),fun p=>(p.cell h.lt).trans (h.cell 2)⟩
abbrev dI (w:World) (B:Nat) (A:Option Addr) (l:List ae):Prop:=br w B 3 A l.length (l.flatMap ae.enc)
theorem dI.el {w:World} {B:Nat} {A:Option Addr} {l:List ae} (h:dI w B A l) (hne:0 < l.length):∃ b off,A=some ⟨b,off,none⟩∧b < B∧∀ i (hi:i < l.length),eY B w b (off+i * 3) l[i]:=by
 obtain ⟨b,off,e,hb,hc⟩:=h.at_ hne
 refine ⟨b,off,e,hb,fun i hi=>?_⟩
 have key:∀ j,j < 3→∀ u,(l[i].enc)[j]?=some u→∀ p:ao B w,p.val.cell? ⟨b,off+i * 3+j,none⟩=some u:=fun j hj u hu p=>by
  rw [p.cell hb,Nat.add_assoc]
  exact hc _ u (by rw [ig ae.enc 3 ae.enc_len l i hi j hj]; exact hu)
 exact ⟨key 0 (by omega) _ rfl,key 1 (by omega) _ rfl,key 2 (by omega) _ rfl⟩
theorem nb {W:World} {g:Nat} {t:TypeId} {l:List ae} (h:ai W g t (l.flatMap ae.enc)) (hn:l.length≤9223372036854775807):dI W W.heap.size (some ⟨g,0,none⟩) l :=
 ai.reads h (fx ae.enc 3 ae.enc_len l) hn
theorem dE:(Tryz.prog.info? 147).map (fun i=>(i.zero,i.size,i.bytes))=some (some (.agg #[O U 0,O U 0,O U 0]),3,24):=by kernel_rfl
structure aM where
 TA:Option Addr
 t:List aq
 tc:Nat
 OA:Option Addr
 o:List ae
 oc:Nat
 got:Int
 sold:Int
 missed:Int
def aM.enc (x:aM):List Value:=[F x.TA x.t.length x.tc,F x.OA x.o.length x.oc,O U x.got,O U x.sold,O U x.missed]
abbrev aM.val (x:aM):Value:=.agg #[F x.TA x.t.length x.tc,F x.OA x.o.length x.oc,O U x.got,O U x.sold,O U x.missed]
theorem aM.enc_len (x:aM):x.enc.length=5:=rfl
structure aQ (w:World) (B:Nat) (x:aM):Prop where
 ts:eX w B x.TA x.t
 os:dI w B x.OA x.o
section
variable {w w' : World} {B:Nat} {x:aM}
theorem aQ.below (h:aQ w B x) (hb:Below B w w'):aQ w' B x:=⟨br.below h.ts hb,br.below h.os hb⟩
theorem aQ.mono {B' : Nat} (h:aQ w B x) (hB:B≤B'):aQ w B' x:=⟨br.mono h.ts hB,br.mono h.os hB⟩
theorem aQ.up (h:aQ w B x) (hb:Below B w w') (hB:B≤w.heap.size):aQ w' w'.heap.size x:=⟨br.up h.ts hb hB,br.up h.os hb hB⟩
theorem aQ.then (h:aQ w w.heap.size x) (hb:Below w.heap.size w w'):aQ w' w'.heap.size x:=h.up hb (Nat.le_refl _)
end
def aq.ok (r:aq):Bool:=bI r.k 1 99 && bI r.c 0 9999
theorem aq.bounds {r:aq} (h:r.ok=true):(1≤r.k∧r.k≤99)∧0≤r.c∧r.c≤9999:=by
 unfold aq.ok at h; rw [Bool.and_eq_true,bH,bH] at h; exact h
def ck:Nat→Int→List aq→Bool
 | _,_,[]=>true
 | n,p,r :: l=>r.ok && (decide (n=0) || decide (p < r.k)) && ck (n+1) r.k l
def ef (l:List aq):Bool:=ck 0 0 l
theorem fq:∀ (l:List aq) (n:Nat) (p:Int),ck n p l=true→∀ i (h:i < l.length),l[i].ok=true
 | r :: l,n,p,hg,i,hi=>by
  simp only [ck,Bool.and_eq_true] at hg
  cases i with
  | zero=>exact hg.1.1
  | succ i=>exact fq l (n+1) r.k hg.2 i (by simpa using hi)
def aN (ts:List aq) (k:Int):Bool:=ts.any fun t=>decide (t.k=k)
def av (ts:List aq) (k:Int):Int:=bg (fun t:aq=>decide (t.k=k)) 0 ts
theorem cQ (ts:List aq) (k:Int):decide (0≤av ts k)=aN ts k:=kJ _ ts 0
def ae.ok (ts:List aq) (r:ae):Bool:=aN ts r.k && bI r.p 1 999 && bI r.c 1 9999
theorem ae.bounds {ts:List aq} {r:ae} (h:r.ok ts=true):aN ts r.k=true∧(1≤r.p∧r.p≤999)∧1≤r.c∧r.c≤9999:=by
 unfold ae.ok at h; rw [Bool.and_eq_true,Bool.and_eq_true,bH,bH] at h; exact ⟨h.1.1,h.1.2,h.2⟩
def before (a b:ae):Bool:=decide (a.k < b.k) || decide (a.k=b.k) && decide (a.p < b.p)
def cR (ts:List aq):Option ae→List ae→Bool
 | _,[]=>true
 | p,r :: l=>r.ok ts && (match p with | none=>true | some q=>before q r) && cR ts (some r) l
def dV (ts:List aq) (l:List ae):Bool:=cR ts none l
theorem eZ (ts:List aq):∀ (l:List ae) (p:Option ae),cR ts p l=true→∀ i (h:i < l.length),l[i].ok ts=true
 | r :: l,p,hg,i,hi=>by
  simp only [cR,Bool.and_eq_true] at hg
  cases i with
  | zero=>exact hg.1.1
  | succ i=>exact eZ ts l (some r) hg.2 i (by simpa using hi)
theorem dW {ts:List aq} {k:Int} (hall:∀ i (h:i < ts.length),ts[i].ok=true) (h:aN ts k=true):1≤k∧k≤99:=by
 unfold aN at h
 rw [List.any_eq_true] at h
 obtain ⟨t,ht,hk⟩:=h
 obtain ⟨i,hi,rfl⟩:=List.getElem_of_mem ht
 have:=(aq.bounds (hall i hi)).1
 have e:=of_decide_eq_true hk
 omega
theorem lI {a b:ae} (ha:1≤a.p∧a.p≤999) (hb:1≤b.p∧b.p≤999):before a b=decide (1000 * a.k+a.p < 1000 * b.k+b.p):=by
 unfold before
 by_cases h1:a.k < b.k
 ·rw [decide_eq_true h1,Bool.true_or]; exact (decide_eq_true (by omega)).symm
 ·rw [decide_eq_false h1,Bool.false_or]
  by_cases h2:a.k=b.k
  ·rw [decide_eq_true h2,Bool.true_and]
   by_cases h3:a.p < b.p
   ·rw [decide_eq_true h3]; exact (decide_eq_true (by omega)).symm
   ·rw [decide_eq_false h3]; exact (decide_eq_false (by omega)).symm
  ·rw [decide_eq_false h2,Bool.false_and]; exact (decide_eq_false (by omega)).symm
def fj:Int→List aq→Int
 | s,[]=>s
 | s,r :: l=>fj (s+r.c) l
def bj (f:ae→Bool):Int→List ae→Int
 | s,[]=>s
 | s,r :: l=>bj f (if f r then s+r.c else s) l
def bW (l:List aq):Int:=fj 0 l
def aS (f:ae→Bool) (l:List ae):Int:=bj f 0 l
abbrev ci:ae→Bool:=fun _=>true
theorem qd {l:List aq} {k:Nat} (h:k < l.length) (s:Int):fj s (l.drop k)=fj (s+l[k].c) (l.drop (k+1)):=by
 rw [List.drop_eq_getElem_cons h]; rfl
theorem jE {f:ae→Bool} {l:List ae} {k:Nat} (h:k < l.length) (s:Int):bj f s (l.drop k)=bj f (if f l[k] then s+l[k].c else s) (l.drop (k+1)):=by
 rw [List.drop_eq_getElem_cons h]; rfl
theorem iV:∀ (l:List aq) (s:Int),(∀ i (h:i < l.length),l[i].ok=true)→s≤fj s l∧fj s l≤s+9999 * l.length
 | [],s,_=>by simp [fj]
 | r :: l,s,h=>by
  have hr:=(aq.bounds (h 0 (by simp))).2
  simp only [List.getElem_cons_zero] at hr
  have:=iV l (s+r.c) (fun i hi=>by have:=h (i+1) (by simpa using hi); simpa using this)
  simp only [fj,List.length_cons]
  omega
theorem eI (f:ae→Bool) (ts:List aq):∀ (l:List ae) (s:Int),(∀ i (h:i < l.length),l[i].ok ts=true)→s≤bj f s l∧bj f s l≤s+9999 * l.length
 | [],s,_=>by simp [bj]
 | r :: l,s,h=>by
  have hr:=(ae.bounds (h 0 (by simp))).2.2
  simp only [List.getElem_cons_zero] at hr
  have:=eI f ts l (if f r then s+r.c else s) (fun i hi=>by have:=h (i+1) (by simpa using hi); simpa using this)
  simp only [bj,List.length_cons]
  cases hf:f r <;> simp only [hf,if_true,if_false,Bool.false_eq_true] at this ⊢ <;> omega
def eh (x:aM):Bool:=decide (x.t.length≤8) && decide (x.o.length≤8)
def gJ (x:aM):Bool:=bI x.got 0 99999 && bI x.sold 0 99999 && bI x.missed 0 99999
def jF (x:aM):Bool:=decide (x.got=bW x.t+aS ci x.o+x.sold+x.missed)
def am (x:aM):Bool:=eh x && gJ x && ef x.t && dV x.t x.o && jF x
structure bn (x:aM):Prop where
 tl:x.t.length≤8
 ol:x.o.length≤8
 g:0≤x.got∧x.got≤99999
 s:0≤x.sold∧x.sold≤99999
 m:0≤x.missed∧x.missed≤99999
 ts:ef x.t=true
 os:dV x.t x.o=true
 sum:x.got=bW x.t+aS ci x.o+x.sold+x.missed
theorem bm {x:aM} : am x=true ↔ bn x:=by
 unfold am eh gJ jF
 simp only [Bool.and_eq_true,bH,decide_eq_true_eq]
 constructor
 ·rintro ⟨⟨⟨⟨⟨h1,h2⟩,⟨h3,h4⟩,h5⟩,h6⟩,h7⟩,h8⟩
  exact ⟨h1,h2,h3,h4,h5,h6,h7,h8⟩
 ·rintro ⟨h1,h2,h3,h4,h5,h6,h7,h8⟩
  exact ⟨⟨⟨⟨⟨h1,h2⟩,⟨h3,h4⟩,h5⟩,h6⟩,h7⟩,h8⟩
theorem bn.tall {x:aM} (h:bn x):∀ i (hi:i < x.t.length),x.t[i].ok=true:=fq _ _ _ h.ts
theorem bn.oall {x:aM} (h:bn x):∀ i (hi:i < x.o.length),x.o[i].ok x.t=true:=eZ _ _ _ h.os
structure Oc where
 t:List aq
 o:List ae
 got:Int
 sold:Int
 missed:Int
 deriving DecidableEq,Inhabited
def aM.c (x:aM):Oc:=⟨x.t,x.o,x.got,x.sold,x.missed⟩
def Oc.at (y:Oc) (TA:Option Addr) (tc:Nat) (OA:Option Addr) (oc:Nat):aM:=⟨TA,y.t,tc,OA,y.o,oc,y.got,y.sold,y.missed⟩
def Oc.good (y:Oc):Bool:=am (y.at none 0 none 0)
theorem Oc.good_at (y:Oc) (TA:Option Addr) (tc:Nat) (OA:Option Addr) (oc:Nat):am (y.at TA tc OA oc)=y.good:=rfl
theorem aM.good_c (x:aM):x.c.good=am x:=rfl
structure dH where
 kind:Int
 stamp:Int
 person:Int
 value:Int
 deriving DecidableEq,Inhabited
def dH.enc (s:dH):List Value:=[O U s.kind,O U s.stamp,O U s.person,O U s.value]
abbrev dH.val (s:dH):Value:=.agg #[O U s.kind,O U s.stamp,O U s.person,O U s.value]
theorem dH.enc_len (s:dH):s.enc.length=4:=rfl
def dH.okS (s:dH):Bool :=
  (if s.kind = 1 then decide (s.person = 0) && bI s.value 1 9999
   else if s.kind = 2 ∨ s.kind = 3 then bI s.person 1 999 && bI s.value 1 9999
   else if s.kind = 4 then (bI s.person 1 999 || decide (s.person = 0)) && bI s.value 1 9999
   else if s.kind = 5 then bI s.person 1 999 && decide (s.value = 0)
   else if s.kind = 6 then bI s.person 1 999 && bI s.value 1 999
   else false) && bI s.stamp 1 99
def dH.ok (s:dH):Bool :=
  bI s.stamp 1 99 &&
  (if s.kind = 1 then decide (s.person = 0) && bI s.value 1 9999
   else if s.kind = 2 ∨ s.kind = 3 then bI s.person 1 999 && bI s.value 1 9999
   else if s.kind = 4 then bI s.person 0 999 && bI s.value 1 9999
   else if s.kind = 5 then bI s.person 1 999 && decide (s.value = 0)
   else if s.kind = 6 then bI s.person 1 999 && bI s.value 1 999 && decide (s.value ≠ s.person)
   else false)
inductive dH.Is (s:dH):Prop
 | get (hk:s.kind=1) (hp:s.person=0) (hv:1≤s.value∧s.value≤9999)
 | show_ (hk:s.kind=2) (hp:1≤s.person∧s.person≤999) (hv:1≤s.value∧s.value≤9999)
 | back (hk:s.kind=3) (hp:1≤s.person∧s.person≤999) (hv:1≤s.value∧s.value≤9999)
 | sell0 (hk:s.kind=4) (hp:s.person=0) (hv:1≤s.value∧s.value≤9999)
 | sell (hk:s.kind=4) (hp:1≤s.person∧s.person≤999) (hv:1≤s.value∧s.value≤9999)
 | miss (hk:s.kind=5) (hp:1≤s.person∧s.person≤999) (hv:s.value=0)
 | move (hk:s.kind=6) (hp:1≤s.person∧s.person≤999) (hv:1≤s.value∧s.value≤999)
theorem dH.okS_is {s:dH} (h:s.okS=true):(1≤s.stamp∧s.stamp≤99)∧s.Is:=by
 unfold dH.okS at h
 rw [Bool.and_eq_true,bH] at h
 refine ⟨h.2, ?_⟩
 have h:=h.1
 split at h
 ·rename_i hk; simp only [Bool.and_eq_true,bH,decide_eq_true_eq] at h; exact .get hk h.1 h.2
 ·split at h
  ·rename_i hk; simp only [Bool.and_eq_true,bH] at h
   rcases hk with hk | hk
   ·exact .show_ hk h.1 h.2
   ·exact .back hk h.1 h.2
  ·split at h
   ·rename_i hk; simp only [Bool.and_eq_true,Bool.or_eq_true,bH,decide_eq_true_eq] at h
    rcases h.1 with hp | hp
    ·exact .sell hk hp h.2
    ·exact .sell0 hk hp h.2
   ·split at h
    ·rename_i hk; simp only [Bool.and_eq_true,bH,decide_eq_true_eq] at h; exact .miss hk h.1 h.2
    ·split at h
     ·rename_i hk; simp only [Bool.and_eq_true,bH] at h; exact .move hk h.1 h.2
     ·cases h
theorem dH.ok_okS (s:dH):s.ok=(s.okS && !(decide (s.kind=6) && decide (s.value=s.person))):=by
 unfold dH.ok dH.okS
 generalize hst:bI s.stamp 1 99=st
 by_cases h1:s.kind=1
 ·have e:decide (s.kind=6)=false:=decide_eq_false (by omega)
  rw [if_pos h1,if_pos h1,e]; cases st <;> simp
 ·rw [if_neg h1,if_neg h1]
  by_cases h2:s.kind=2 ∨ s.kind=3
  ·have e:decide (s.kind=6)=false:=decide_eq_false (by omega)
   rw [if_pos h2,if_pos h2,e]; cases st <;> simp
  ·rw [if_neg h2,if_neg h2]
   by_cases h4:s.kind=4
   ·have e:decide (s.kind=6)=false:=decide_eq_false (by omega)
    have e2:bI s.person 0 999=(bI s.person 1 999 || decide (s.person=0)):=by
     rw [Bool.eq_iff_iff,Bool.or_eq_true,bH,bH,decide_eq_true_eq]; omega
    rw [if_pos h4,if_pos h4,e,e2]; cases st <;> simp
   ·rw [if_neg h4,if_neg h4]
    by_cases h5:s.kind=5
    ·have e:decide (s.kind=6)=false:=decide_eq_false (by omega)
     rw [if_pos h5,if_pos h5,e]; cases st <;> simp
    ·rw [if_neg h5,if_neg h5]
     by_cases h6:s.kind=6
     ·rw [if_pos h6,if_pos h6,decide_eq_true h6]
      by_cases h7:s.value=s.person
      ·simp [h7]
      ·simp [h7]; cases st <;> simp
     ·rw [if_neg h6,if_neg h6]; cases st <;> rfl
def cw (ts:List aq) (kd:Int):Nat:=(ts.takeWhile fun t=>decide (t.k < kd)).length
theorem iW (ts:List aq) (kd:Int):cw ts kd≤ts.length:=by
 unfold cw; exact (List.takeWhile_prefix _).length_le
theorem iX (t:aq) (ts:List aq) (kd:Int):cw (t :: ts) kd=if t.k < kd then cw ts kd+1 else 0:=by
 unfold cw; rw [List.takeWhile_cons]; by_cases h:t.k < kd <;> simp [h]
theorem qe:∀ (ts:List aq) (kd:Int) (i:Nat) (h:i < ts.length),i < cw ts kd→ts[i].k < kd
 | t :: ts,kd,i,h,hi=>by
  rw [iX] at hi
  split at hi
  ·cases i with
   | zero=>assumption
   | succ i=>exact qe ts kd i (by simpa using h) (by omega)
  ·omega
theorem qf:∀ (ts:List aq) (kd:Int) (h:cw ts kd < ts.length),¬ ts[cw ts kd].k < kd
 | t :: ts,kd,h=>by
  by_cases hk:t.k < kd
  ·have e:cw (t :: ts) kd=cw ts kd+1:=by rw [iX,if_pos hk]
   simp only [e,List.getElem_cons_succ]
   exact qf ts kd (by simpa [e] using h)
  ·have e:cw (t :: ts) kd=0:=by rw [iX,if_neg hk]
   simp only [e,List.getElem_cons_zero]; exact hk
def sM (ts:List aq):Prop:=ts.Pairwise fun a b=>a.k < b.k
theorem jg:∀ (ts:List aq) (n:Nat) (p:Int),ck n p ts=true→sM ts∧(n ≠ 0→∀ t ∈ ts,p < t.k)
 | [],_,_,_=>⟨List.Pairwise.nil,fun _ t ht=>by cases ht⟩
 | r :: l,n,p,h=>by
  simp only [ck,Bool.and_eq_true,Bool.or_eq_true,decide_eq_true_eq] at h
  obtain ⟨h1,h2⟩:=jg l (n+1) r.k h.2
  have h3:=h2 (by omega)
  refine ⟨List.pairwise_cons.2 ⟨h3,h1⟩,fun hn t ht=>?_⟩
  have hp:p < r.k:=by rcases h.1.2 with h0 | h0; exact absurd h0 hn; exact h0
  rcases List.mem_cons.1 ht with rfl | ht
  ·exact hp
  ·have:=h3 t ht; omega
theorem sd (ts:List aq) (kd:Int) (ha:sM ts) (i:Nat) (h:i < ts.length) (hi:cw ts kd≤i) : ¬ ts[i].k < kd:=by
 have h0:=qf ts kd (by omega)
 rcases Nat.lt_or_ge (cw ts kd) i with hlt | hge
 ·have:=List.pairwise_iff_getElem.1 ha (cw ts kd) i (by omega) h hlt
  omega
 ·have e:cw ts kd=i:=by omega
  simp only [e] at h0; exact h0
def ah (ts:List aq) (kd n:Int):List aq :=
 if 0≤av ts kd then ts.set (av ts kd).toNat ⟨(ts.getD (av ts kd).toNat default).k,(ts.getD (av ts kd).toNat default).c+n⟩
 else ts.take (cw ts kd)++⟨kd,n⟩ :: ts.drop (cw ts kd)
def dk (ts:List aq) (kd:Int):List aq:=ts.take (cw ts kd)++⟨kd,0⟩ :: ts.drop (cw ts kd)
theorem iG {α:Type} (f:α→Bool) (y:α) (r:List α) (hy:f y=true):∀ (l:List α) (k:Nat),(∀ x ∈ l,f x=false)→bg f k (l++y :: r)=(k+l.length:Nat)
 | [],k,_=>by simp [bg,hy]
 | x :: l,k,h=>by
  rw [List.cons_append,bg,h x (by simp)]
  rw [if_neg (by simp),iG f y r hy l (k+1) fun y hy=>h y (by simp [hy])]
  simp; omega
theorem lJ {α:Type} (f:α→Bool):∀ (l:List α) (k:Nat),bg f k l < k+l.length
 | [],_=>by simp [bg]; omega
 | x :: l,k=>by
  rw [bg]; split
  ·simp; omega
  ·have:=lJ f l (k+1); simp only [List.length_cons]; omega
theorem kc {ts:List aq} {kd:Int} (h:0≤av ts kd):(av ts kd).toNat < ts.length:=by
 have:=lJ (fun t:aq=>decide (t.k=kd)) ts 0
 change av ts kd < _ at this; omega
theorem kL {ts:List aq} {kd:Int} (h : ¬ 0≤av ts kd):∀ t ∈ ts,t.k ≠ kd:=by
 have h1:=cQ ts kd
 rw [decide_eq_false h] at h1
 intro t ht e
 have:aN ts kd=true:=by unfold aN; rw [List.any_eq_true]; exact ⟨t,ht,decide_eq_true e⟩
 rw [this] at h1; cases h1
theorem pi {ts:List aq} {kd:Int} (h : ¬ 0≤av ts kd):av (dk ts kd) kd=cw ts kd:=by
 have h0:=kL h
 unfold av dk
 rw [iG _ _ _ (by simp) _ 0 fun t ht=>by simpa using h0 t (List.mem_of_mem_take ht)]
 simp [List.length_take,Nat.min_eq_left (iW ts kd)]
theorem nU {ts:List aq} {kd:Int} (n:Int) (h : ¬ 0≤av ts kd) :
  ah ts kd n=(dk ts kd).set (cw ts kd) ⟨((dk ts kd).getD (cw ts kd) default).k,((dk ts kd).getD (cw ts kd) default).c+n⟩:=by
 unfold ah
 rw [if_neg h]
 have hl:(ts.take (cw ts kd)).length=cw ts kd:=by rw [List.length_take,Nat.min_eq_left (iW ts kd)]
 have e:(dk ts kd).getD (cw ts kd) default=⟨kd,0⟩:=by
  unfold dk
  rw [List.getD_eq_getElem?_getD,List.getElem?_append_right (by omega),hl,Nat.sub_self]; rfl
 rw [e]
 unfold dk
 rw [List.set_append_right _ _ (by omega),hl,Nat.sub_self,List.set_cons_zero,Int.zero_add]
theorem cU {a b:ae} : before a b=true ↔ a.k < b.k ∨ a.k=b.k∧a.p < b.p:=by
 unfold before; simp
def mq (os:List ae):Prop:=os.Pairwise fun a b=>before a b=true
theorem jG (ts:List aq):∀ (os:List ae) (p:Option ae),cR ts p os=true→mq os∧∀ q,p=some q→∀ o ∈ os,before q o=true
 | [],_,_=>⟨List.Pairwise.nil,fun _ _ o ho=>by cases ho⟩
 | r :: l,p,h=>by
  simp only [cR,Bool.and_eq_true] at h
  obtain ⟨h1,h2⟩:=jG ts l (some r) h.2
  have h3:=h2 r rfl
  refine ⟨List.pairwise_cons.2 ⟨h3,h1⟩, ?_⟩
  rintro q rfl o ho
  have hq:before q r=true:=h.1.2
  rcases List.mem_cons.1 ho with rfl | ho
  ·exact hq
  ·have:=h3 o ho
   rw [cU] at this hq ⊢; omega
def ei (k p:Int) (o:ae):Bool:=decide (o.k=k) && decide (o.p=p)
theorem dn {k p:Int} {o:ae} : ei k p o=true ↔ o.k=k∧o.p=p:=by unfold ei; simp
def aJ (k p:Int):List ae→Int
 | []=>0
 | o :: l=>if ei k p o then o.c else aJ k p l
def aH (k p:Int):Int→List ae→List ae
 | c,[]=>if c ≠ 0 then [⟨k,p,c⟩] else []
 | c,o :: l =>
  if before ⟨k,p,0⟩ o=true∧c ≠ 0 then ⟨k,p,c⟩ :: (if ei k p o then aH k p 0 l else o :: aH k p 0 l)
  else if ei k p o then aH k p c l else o :: aH k p c l
theorem lK {k p:Int} : ∀ l:List ae,(∀ o ∈ l,ei k p o=false)→aH k p 0 l=l
 | [],_=>by simp [aH]
 | o :: l,h=>by
  rw [aH,if_neg (by simp),h o (by simp),if_neg (by simp),lK l fun q hq=>h q (by simp [hq])]
theorem jH {k p:Int} {o:ae} (h:before ⟨k,p,0⟩ o=true):ei k p o=false:=by
 rw [cU] at h; simp only at h
 rw [Bool.eq_false_iff]; intro e; rw [dn] at e; omega
theorem mJ {k p c:Int} (hc:c ≠ 0):∀ l:List ae,(∀ o ∈ l,before ⟨k,p,0⟩ o=true)→aH k p c l=⟨k,p,c⟩ :: l
 | [],_=>by simp [aH,hc]
 | o :: l,h=>by
  have ho:=h o (by simp)
  rw [aH,if_pos ⟨ho,hc⟩,jH ho,if_neg (by simp),lK l fun q hq=>jH (h q (by simp [hq]))]
def dM (k p by_:Int):List ae→List ae
 | []=>[⟨k,p,by_⟩]
 | o :: l=>if before o ⟨k,p,0⟩ then o :: dM k p by_ l else if ei k p o then (if o.c+by_=0 then l else ⟨o.k,o.p,o.c+by_⟩ :: l) else ⟨k,p,by_⟩ :: o :: l
theorem fy {k p by_:Int} : ∀ l:List ae,mq l→(aJ k p l=0→by_ ≠ 0)→dM k p by_ l=aH k p (aJ k p l+by_) l
 | [],_,h=>by
  have hb:by_ ≠ 0:=h rfl
  simp [dM,aH,aJ,hb]
 | o :: l,ha,h=>by
  obtain ⟨h1,h2⟩:=List.pairwise_cons.1 ha
  rw [dM]
  by_cases hb:before o ⟨k,p,0⟩=true
  ·have hn:ei k p o=false:=by
    rw [cU] at hb; simp only at hb
    rw [Bool.eq_false_iff]; intro e; rw [dn] at e; omega
   have hr : ¬ before ⟨k,p,0⟩ o=true:=by rw [cU] at hb ⊢; simp only at hb ⊢; omega
   have eo:aJ k p (o :: l)=aJ k p l:=by rw [aJ,hn,if_neg (by simp)]
   rw [eo] at h ⊢
   rw [if_pos hb,fy l h2 h,aH,if_neg (fun e=>hr e.1),hn,if_neg (by simp)]
  ·rw [if_neg hb]
   by_cases hi:ei k p o=true
   ·have hi':=dn.1 hi
    have eo:aJ k p (o :: l)=o.c:=by rw [aJ,if_pos hi]
    have hr : ¬ before ⟨k,p,0⟩ o=true:=by rw [cU]; simp only; omega
    have hl:∀ q ∈ l,before ⟨k,p,0⟩ q=true:=fun q hq=>by
     have:=h1 q hq; rw [cU] at this ⊢; simp only at this ⊢; omega
    have eA:aH k p (o.c+by_) (o :: l)=aH k p (o.c+by_) l:=by rw [aH,if_neg (fun e=>hr e.1),if_pos hi]
    rw [eo,if_pos hi,eA]
    by_cases hz:o.c+by_=0
    ·rw [if_pos hz,hz,lK l fun q hq=>jH (hl q hq)]
    ·rw [if_neg hz,mJ hz l hl,hi'.1,hi'.2]
   ·have hi0:ei k p o=false:=Bool.eq_false_iff.2 hi
    have hr:before ⟨k,p,0⟩ o=true:=by
     rw [cU] at hb ⊢; simp only at hb ⊢
     rw [dn] at hi; omega
    have hl:∀ q ∈ l,before ⟨k,p,0⟩ q=true:=fun q hq=>by
     have:=h1 q hq; rw [cU] at this hr ⊢; simp only at this hr ⊢; omega
    have hall:∀ q ∈ l,ei k p q=false:=fun q hq=>jH (hl q hq)
    have e0:aJ k p (o :: l)=0:=by
     have:∀ m:List ae,(∀ q ∈ m,ei k p q=false)→aJ k p m=0:=by
      intro m; induction m with
      | nil=>intro _; rfl
      | cons q m ih=>intro hm; rw [aJ,hm q (by simp),if_neg (by simp)]; exact ih fun r hr=>hm r (by simp [hr])
     exact this _ (by intro q hq; rcases List.mem_cons.1 hq with rfl | hq; exact hi0; exact hall q hq)
    have hb0:=h e0
    rw [if_neg hi,e0,Int.zero_add,mJ hb0 (o :: l) (by intro q hq; rcases List.mem_cons.1 hq with rfl | hq; exact hr; exact hl q hq)]
theorem nc {k p:Int} : ∀ (l:List ae) (c:Int) (o:ae),o ∈ aH k p c l→o ∈ l ∨ o=⟨k,p,c⟩
 | [],c,o,h=>by
  rw [aH] at h; split at h
  ·simp at h; exact .inr h
  ·cases h
 | q :: l,c,o,h=>by
  have up0:∀ o,o ∈ (if ei k p q=true then aH k p 0 l else q :: aH k p 0 l)→o ∈ q :: l:=by
   intro o ho
   have hz:∀ m:List ae,∀ o ∈ aH k p 0 m,o ∈ m:=by
    intro m; induction m with
    | nil=>intro o ho; simp [aH] at ho
    | cons r m ih =>
     intro o ho
     rw [aH,if_neg (by simp)] at ho
     split at ho
     ·exact List.mem_cons_of_mem _ (ih o ho)
     ·rcases List.mem_cons.1 ho with rfl | ho
      ·simp
      ·exact List.mem_cons_of_mem _ (ih o ho)
   split at ho
   ·exact List.mem_cons_of_mem _ (hz l o ho)
   ·rcases List.mem_cons.1 ho with rfl | ho
    ·simp
    ·exact List.mem_cons_of_mem _ (hz l o ho)
  rw [aH] at h
  split at h
  ·rcases List.mem_cons.1 h with rfl | h
   ·exact .inr rfl
   ·exact .inl (up0 o h)
  ·split at h
   ·rcases nc l c o h with h | h
    ·exact .inl (List.mem_cons_of_mem _ h)
    ·exact .inr h
   ·rcases List.mem_cons.1 h with rfl | h
    ·exact .inl (by simp)
    ·rcases nc l c o h with h | h
     ·exact .inl (List.mem_cons_of_mem _ h)
     ·exact .inr h
theorem ej {k p:Int} : ∀ l:List ae,(aH k p 0 l).Sublist l
 | []=>by simp [aH]
 | o :: l=>by
  rw [aH,if_neg (by simp)]
  split
  ·exact (ej l).cons o
  ·exact (ej l).cons_cons o
theorem ke {k p:Int} : ∀ l:List ae,aJ k p l=0 ∨ ∃ o ∈ l,ei k p o=true∧o.c=aJ k p l
 | []=>.inl rfl
 | o :: l=>by
  rw [aJ]; split
  ·rename_i h; exact .inr ⟨o,by simp,h,rfl⟩
  ·rcases ke (k:=k) (p:=p) l with h | ⟨q,hq,h⟩
   ·exact .inl h
   ·exact .inr ⟨q,by simp [hq],h⟩
theorem lL {k p:Int} : ∀ l:List ae,(∀ o ∈ l,ei k p o=false)→aJ k p l=0
 | [],_=>rfl
 | o :: l,h=>by rw [aJ,h o (by simp),if_neg (by simp)]; exact lL l fun q hq=>h q (by simp [hq])
theorem kg {k p:Int} : ∀ (l:List ae) (s:Int),mq l→bj (ei k p) s l=s+aJ k p l
 | [],s,_=>by simp [bj,aJ]
 | o :: l,s,ha=>by
  obtain ⟨h1,h2⟩:=List.pairwise_cons.1 ha
  rw [bj,aJ]
  by_cases hi:ei k p o=true
  ·rw [if_pos hi,if_pos hi,kg l _ h2,lL l,Int.add_zero]
   intro q hq
   have:=h1 q hq
   rw [cU] at this
   have hi':=dn.1 hi
   rw [Bool.eq_false_iff]; intro e; rw [dn] at e; omega
  ·rw [if_neg hi,if_neg hi]; exact kg l s h2
structure lM (B:Nat) (w:World) (b:Nat) (x:aM):Prop where
 c0:∀ p:ao B w,p.val.cell? ⟨b,0,none⟩=some (F x.TA x.t.length x.tc)
 c1:∀ p:ao B w,p.val.cell? ⟨b,1,none⟩=some (F x.OA x.o.length x.oc)
 c2:∀ p:ao B w,p.val.cell? ⟨b,2,none⟩=some (O U x.got)
 c3:∀ p:ao B w,p.val.cell? ⟨b,3,none⟩=some (O U x.sold)
 c4:∀ p:ao B w,p.val.cell? ⟨b,4,none⟩=some (O U x.missed)
theorem lM.of {W:World} {g:Nat} {t:TypeId} {x:aM} (h:ai W g t x.enc):lM W.heap.size W g x :=
 ⟨fun p=>(p.cell h.lt).trans (h.cell 0),fun p=>(p.cell h.lt).trans (h.cell 1),fun p=>(p.cell h.lt).trans (h.cell 2),fun p=>(p.cell h.lt).trans (h.cell 3),fun p=>(p.cell h.lt).trans (h.cell 4)⟩
theorem aQ.at {W:World} {x:aM} (h:aQ W W.heap.size x) (q:ao W.heap.size W):aQ q.val q.val.heap.size x:=h.then q.below
theorem ai.new1 (w:World) (o:Obj) (t:TypeId) (cs:Array Value):ai ((w.alloc o).alloc (.cells cs t)) (w.heap.size+1) t cs.toList:=by
 have h:=ai.new (w.alloc o) t cs
 rwa [show (w.alloc o).heap.size=w.heap.size+1 from Array.size_push _] at h
theorem ai.new2 (w:World) (o o' : Obj) (t:TypeId) (cs:Array Value):ai (((w.alloc o).alloc o').alloc (.cells cs t)) (w.heap.size+1+1) t cs.toList:=by
 have h:=ai.new1 (w.alloc o) o' t cs
 rwa [show (w.alloc o).heap.size=w.heap.size+1 from Array.size_push _] at h
theorem lN {n:Nat} {p:Int} {l:List aq} {k:Nat} (h:k < l.length):ck n p (l.drop k)=(l[k].ok && (decide (n=0) || decide (p < l[k].k)) && ck (n+1) l[k].k (l.drop (k+1))):=by
 rw [List.drop_eq_getElem_cons h]; rfl
set_option maxHeartbeats 2000000 in
theorem nd (x:aM) (w:World) (h:aQ w w.heap.size x) :
  Calls Tryz.prog 130 #[x.val] w fun e w'=>e=.returned (.bool (ef x.t && decide (x.t.length≤8)))∧Below w.heap.size w w':=by
 have hl:=h.ts.big
 go_enter Tryz.func130,Tryz.ntmps130
 go_wp2
 have hb0:=(Below.refl w.heap.size w).alloc (Nat.le_refl _) (.cells #[F x.TA x.t.length x.tc,F x.OA x.o.length x.oc,O U x.got,O U x.sold,O U x.missed] 40)
 have hS:=lM.of (x:=x) (ai.new w 40 #[F x.TA x.t.length x.tc,F x.OA x.o.length x.oc,O U x.got,O U x.sold,O U x.missed])
 have hR:=h.up hb0 (Nat.le_refl _)
 generalize w.alloc (.cells #[F x.TA x.t.length x.tc,F x.OA x.o.length x.oc,O U x.got,O U x.sold,O U x.missed] 40)=W at hb0 hS hR ⊢
 have c0:=hS.c0
 have hrd:=hR.ts.el
 go_loopw [3] (fun i wr=>∃ (k:Nat) (prev:Int),k≤x.t.length∧i=O U k∧(∃ q:ao W.heap.size W,wr=q.val)∧Hid (ck k prev (x.t.drop k)=ef x.t)∧Hid (∀ (_hk:0 < k) (h' : k - 1 < x.t.length),prev=x.t[k - 1].k)) (fun i _=>x.t.length - (intOf i).toNat)
 case atStart=>exact ⟨0,0,Nat.zero_le _,rfl,⟨ao.start _ _,rfl⟩,rfl,fun h=>absurd h (by omega)⟩
 case round =>
  obtain ⟨k,prev,hk,rfl,⟨q,rfl⟩,HR,HP⟩:=hrel
  by_cases hlt:k < x.t.length
  ·obtain ⟨b,off,hA,hb,hcell⟩:=hrd (by omega)
   obtain ⟨e0,e1⟩:=hcell k hlt
   have HC:Hid (0 < k→∀ p:ao W.heap.size W,p.val.cell? ⟨b,off+(k - 1) * 2,none⟩=some (O U prev)):=fun h p=>by
    rw [HP.out h (by omega)]; exact (hcell (k - 1) (by omega)).c0 p
   have HS:=Lib.hid (lN (n:=k) (p:=prev) hlt)
   obtain ⟨r,hre⟩ : ∃ r,r=x.t[k]:=⟨_,rfl⟩
   have HN:Hid (∀ (_hk:0 < k+1) (h' : k+1 - 1 < x.t.length),r.k=x.t[k+1 - 1].k):=fun _ h'=>by rw [hre]; rfl
   rw [← hre] at e0 e1 HS
   simp only [hA] at c0
   clear hre hcell hrd hA
   go_wp2
   have hbV:=q.below.alloc q.size (.cells #[O U r.k,O U r.c] 104)
   have hlV:=ai.new q.val 104 #[O U r.k,O U r.c]
   generalize q.val.alloc (.cells #[O U r.k,O U r.c] 104)=V at hbV hlV ⊢
   generalize q.val.heap.size=gv at hlV ⊢
   obtain ⟨d0,d1⟩:=kK.of (r:=r) hlV
   have c0' : ∀ p:ao V.heap.size V,p.val.cell? ⟨w.heap.size,0,none⟩=some (F (some ⟨b,off,none⟩) x.t.length x.tc):=fun p=>c0 ⟨p.val,hbV.trans (p.below.mono hbV.size)⟩
   have HOK:Hid (r.ok=(bI r.k 1 99 && bI r.c 0 9999)):=rfl
   clear e0 e1 c0
   obtain ⟨v1,hv1⟩ : ∃ v,bI r.k 1 99=v:=⟨_,rfl⟩
   obtain ⟨v2,hv2⟩ : ∃ v,bI r.c 0 9999=v:=⟨_,rfl⟩
   rw [hv1,hv2] at HOK
   have HV1:=Lib.hid hv1; clear hv1
   have HV2:=Lib.hid hv2; clear hv2
   rcases Nat.eq_zero_or_pos k with h0 | h0
   ·have hd:decide (0 < k)=false:=decide_eq_false (by omega)
    have H0:=Lib.hid h0; clear h0
    cases v1
    ·refine au (by kernel_rfl) (by kernel_rfl) ?_
     repeat (any_goals (first | go_big_quiet_step ((go_at_call 134; with_reducible refine ay HV1 (aE r.k 1 99 _))) | (refine wpQuiet_step (fun K hK=>?_); go_simp; split <;> (refine hK _ ?_; clear hK K))))
     all_goals (refine wpQuiet_nil ?_; rintro _ ⟨q1,rfl⟩)
     all_goals have hb1:=hb0.trans ((hbV.trans (q1.below.mono hbV.size)).mono hb0.size)
     all_goals go_wp2
     go_ret
     refine ⟨?_,hb1⟩
     rw [← HR.out,HS.out,HOK.out]; rfl
    ·cases v2
     all_goals
      refine au (by kernel_rfl) (by kernel_rfl) ?_
      repeat (any_goals (first | go_big_quiet_step ((first | (go_at_call 134; with_reducible refine ay HV1 (aE r.k 1 99 _)) | (go_at_call 134; with_reducible refine ay HV2 (aE r.c 0 9999 _)))) | (refine wpQuiet_step (fun K hK=>?_); go_simp; split <;> (refine hK _ ?_; clear hK K))))
      all_goals (refine wpQuiet_nil ?_; rintro _ ⟨q1,rfl⟩)
      all_goals have hb1:=hb0.trans ((hbV.trans (q1.below.mono hbV.size)).mono hb0.size)
      all_goals go_wp2
     ·go_ret
      refine ⟨?_,hb1⟩
      rw [← HR.out,HS.out,HOK.out]; rfl
     ·go_roundw
      case rel=>exact ⟨k+1,r.k,by omega,by go_num,⟨⟨_,hbV.trans (q1.below.mono hbV.size)⟩,rfl⟩,by have h1:=HR.out; rw [HS.out,HOK.out,decide_eq_true H0.out] at h1; exact h1,HN⟩
      case measure=>simp [intOf]; omega
   ·have c5:∀ p:ao V.heap.size V,p.val.cell? ⟨b,off+(k - 1) * 2,none⟩=some (O U prev):=fun p=>HC.out h0 ⟨p.val,hbV.trans (p.below.mono hbV.size)⟩
    have h0' : (0:Int) < (k:Int):=by omega
    cases v1
    ·refine au (by kernel_rfl) (by kernel_rfl) ?_
     repeat (any_goals (first | go_big_quiet_step ((go_at_call 134; with_reducible refine ay HV1 (aE r.k 1 99 _))) | (refine wpQuiet_step (fun K hK=>?_); go_simp; split <;> (refine hK _ ?_; clear hK K))))
     all_goals (refine wpQuiet_nil ?_; rintro _ ⟨q1,rfl⟩)
     all_goals have hb1:=hb0.trans ((hbV.trans (q1.below.mono hbV.size)).mono hb0.size)
     all_goals go_wp2
     go_ret
     refine ⟨?_,hb1⟩
     rw [← HR.out,HS.out,HOK.out]; rfl
    ·cases v2
     all_goals
      refine au (by kernel_rfl) (by kernel_rfl) ?_
      repeat (any_goals (first | go_big_quiet_step ((first | (go_at_call 134; with_reducible refine ay HV1 (aE r.k 1 99 _)) | (go_at_call 134; with_reducible refine ay HV2 (aE r.c 0 9999 _)))) | (refine wpQuiet_step (fun K hK=>?_); go_simp; split <;> (refine hK _ ?_; clear hK K))))
      all_goals (refine wpQuiet_nil ?_; rintro _ ⟨q1,rfl⟩)
      all_goals have hb1:=hb0.trans ((hbV.trans (q1.below.mono hbV.size)).mono hb0.size)
      all_goals go_wp2
     ·go_ret
      refine ⟨?_,hb1⟩
      rw [← HR.out,HS.out,HOK.out]; rfl
     ·go_ret
      refine ⟨?_,hb1⟩
      have hm:r.k≤prev:=by assumption
      rw [← HR.out,HS.out,HOK.out,decide_eq_false (by omega : ¬ k=0),decide_eq_false (by omega : ¬ prev < r.k)]; rfl
     ·have hm:prev < r.k:=by assumption
      go_roundw
      case rel=>exact ⟨k+1,r.k,by omega,by go_num,⟨⟨_,hbV.trans (q1.below.mono hbV.size)⟩,rfl⟩,by have h1:=HR.out; rw [HS.out,HOK.out,decide_eq_true hm,Bool.or_true] at h1; exact h1,HN⟩
      case measure=>simp [intOf]; omega
  ·have HK:Hid (ef x.t=true):=by
    have h1:=HR.out
    rw [List.drop_eq_nil_of_le (by omega)] at h1; exact h1.symm
   clear hrd
   go_wp2
   go_ret
   refine ⟨?_,hb0.trans (q.below.mono hb0.size)⟩
   rw [HK.out,Bool.true_and]
   exact congrArg (fun b=>Ending.returned (.bool b)) (decide_eq_decide.2 (by omega))
theorem aP {P:Program} {f:FuncId} {args:Array Value} {B:Nat} {w:World} {q:ao B w} {v v' : Value} (hv:Hid (v=v')) (hB:B≤w.heap.size)
  (h:Calls P f args q.val fun e w'=>e=.returned v∧Below q.val.heap.size q.val w'):Calls P f args q.val fun e w'=>e=.returned v'∧∃ q' : ao B w,w'=q'.val:=by
 have:=hv.out; subst this; exact aK hB h
set_option maxHeartbeats 1000000 in
theorem bx (x:aM) (kd:Int) (w:World) (h:aQ w w.heap.size x) :
  Calls Tryz.prog 174 #[x.val,O U kd] w fun e w'=>e=.returned (O U (av x.t kd))∧Below w.heap.size w w':=by
 have hl:=h.ts.big
 have HF:Hid (bg (fun t:aq=>decide (t.k=kd)) 0 (x.t.drop 0)=av x.t kd):=rfl
 go_enter Tryz.func174,Tryz.ntmps174
 go_wp2
 have hb0:=(Below.refl w.heap.size w).alloc (Nat.le_refl _) (.cells #[F x.TA x.t.length x.tc,F x.OA x.o.length x.oc,O U x.got,O U x.sold,O U x.missed] 40)
 have hS:=lM.of (x:=x) (ai.new w 40 #[F x.TA x.t.length x.tc,F x.OA x.o.length x.oc,O U x.got,O U x.sold,O U x.missed])
 have hR:=h.up hb0 (Nat.le_refl _)
 generalize w.alloc (.cells #[F x.TA x.t.length x.tc,F x.OA x.o.length x.oc,O U x.got,O U x.sold,O U x.missed] 40)=W at hb0 hS hR ⊢
 have c0:=hS.c0
 have hrd:=hR.ts.el
 go_loopw [5] (fun i wr=>∃ (k:Nat),k≤x.t.length∧i=O U k∧(∃ q:ao W.heap.size W,wr=q.val)∧Hid (bg (fun t:aq=>decide (t.k=kd)) k (x.t.drop k)=av x.t kd)) (fun i _=>x.t.length - (intOf i).toNat)
 case atStart=>exact ⟨0,Nat.zero_le _,rfl,⟨ao.start _ _,rfl⟩,HF⟩
 case round =>
  obtain ⟨k,hk,rfl,⟨q,rfl⟩,HR⟩:=hrel
  by_cases hlt:k < x.t.length
  ·obtain ⟨b,off,hA,hb,hcell⟩:=hrd (by omega)
   obtain ⟨e0,e1⟩:=hcell k hlt
   have hy:=fun hv=>qc (f:=fun t:aq=>decide (t.k=kd)) hlt hv
   have hn:=fun hv=>rC (f:=fun t:aq=>decide (t.k=kd)) hlt hv
   obtain ⟨r,hre⟩ : ∃ r,r=x.t[k]:=⟨_,rfl⟩
   rw [← hre] at e0 e1 hy hn
   simp only [hA] at c0
   clear hre hcell hrd hA
   by_cases hz:r.k=kd
   ·have HE:Hid ((k:Int)=av x.t kd):=by rw [← hy (decide_eq_true hz)]; exact HR.out
    have hv:(r.k == kd)=true:=by simp [hz]
    clear hy hn hz
    go_wp2
    go_ret
    exact ⟨by rw [← HE.out]; rfl,hb0.trans (q.below.mono hb0.size)⟩
   ·have HE:Hid (bg (fun t:aq=>decide (t.k=kd)) (k+1) (x.t.drop (k+1))=av x.t kd):=by rw [← hn (decide_eq_false hz)]; exact HR.out
    have hv:(r.k == kd)=false:=by simp [hz]
    clear hy hn hz
    go_wp2
    go_roundw
    case rel=>exact ⟨k+1,by omega,by go_num,⟨q,rfl⟩,HE⟩
    case measure=>simp [intOf]; omega
  ·have HE:Hid (-1=av x.t kd):=by
    have h1:=HR.out; rw [List.drop_eq_nil_of_le (by omega)] at h1; exact h1
   clear hrd
   go_wp2
   go_ret
   exact ⟨by rw [← HE.out]; rfl,hb0.trans (q.below.mono hb0.size)⟩
theorem ij (r:ae) (w:World) (h1:1≤r.k∧r.k≤99) (h2:1≤r.p∧r.p≤999) :
  Calls Tryz.prog 176 #[r.val] w fun e w'=>e=.returned (O U (1000 * r.k+r.p))∧Below w.heap.size w w':=by
 obtain ⟨a1,a2⟩:=h1
 obtain ⟨b1,b2⟩:=h2
 have m:IntKind.i64.wrap (1000 * r.k)=1000 * r.k:=IntWalk.i64_in _ (by omega)
 have s:IntKind.i64.wrap (1000 * r.k+r.p)=1000 * r.k+r.p:=IntWalk.i64_in _ (by omega)
 go_enter Tryz.func176,Tryz.ntmps176
 go_wp2
 first
  | (go_ret; exact ⟨rfl,(Below.refl _ _).alloc (Nat.le_refl _) _⟩)
  | (go_quiet (fail); go_wp2; go_ret; exact ⟨rfl,by go_grown⟩)
theorem mK {ts:List aq} {p:Option ae} {l:List ae} {k:Nat} (h:k < l.length):cR ts p (l.drop k)=(l[k].ok ts && (match p with | none=>true | some q=>before q l[k]) && cR ts (some l[k]) (l.drop (k+1))):=by
 rw [List.drop_eq_getElem_cons h]; rfl
set_option maxHeartbeats 2000000 in
theorem nV (x:aM) (w:World) (h:aQ w w.heap.size x) (hall:∀ i (hi:i < x.t.length),x.t[i].ok=true) :
  Calls Tryz.prog 131 #[x.val] w fun e w'=>e=.returned (.bool (dV x.t x.o && decide (x.o.length≤8)))∧Below w.heap.size w w':=by
 have hl:=h.os.big
 have HALL:=Lib.hid hall; clear hall
 go_enter Tryz.func131,Tryz.ntmps131
 go_wp2
 have hb0:=(Below.refl w.heap.size w).alloc (Nat.le_refl _) (.cells #[F x.TA x.t.length x.tc,F x.OA x.o.length x.oc,O U x.got,O U x.sold,O U x.missed] 40)
 have hS:=lM.of (x:=x) (ai.new w 40 #[F x.TA x.t.length x.tc,F x.OA x.o.length x.oc,O U x.got,O U x.sold,O U x.missed])
 have hR:=h.up hb0 (Nat.le_refl _)
 generalize w.alloc (.cells #[F x.TA x.t.length x.tc,F x.OA x.o.length x.oc,O U x.got,O U x.sold,O U x.missed] 40)=W at hb0 hS hR ⊢
 have hrd:=hR.os.el
 go_loopw [3] (fun i wr=>∃ (k:Nat) (prev:Option ae),k≤x.o.length∧i=O U k∧(∃ q:ao W.heap.size W,wr=q.val)∧Hid (cR x.t prev (x.o.drop k)=dV x.t x.o)∧Hid ((k=0→prev=none)∧∀ (_hk:0 < k) (h' : k - 1 < x.o.length),prev=some x.o[k - 1]∧x.o[k - 1].ok x.t=true)) (fun i _=>x.o.length - (intOf i).toNat)
 case atStart=>exact ⟨0,none,Nat.zero_le _,rfl,⟨ao.start _ _,rfl⟩,rfl,fun _=>rfl,fun h=>absurd h (by omega)⟩
 case round =>
  obtain ⟨k,prev,hk,rfl,⟨q,rfl⟩,HR,HP⟩:=hrel
  obtain ⟨s0,s1,s2,s3,s4⟩:=hS
  by_cases hlt:k < x.o.length
  ·obtain ⟨b,off,hA,hb,hcell⟩:=hrd (by omega)
   obtain ⟨e0,e1,e2⟩:=hcell k hlt
   have HS:=Lib.hid (mK (ts:=x.t) (p:=prev) hlt)
   obtain ⟨r,hre⟩ : ∃ r,r=x.o[k]:=⟨_,rfl⟩
   have HN:Hid (r.ok x.t=true→(k+1=0→some r=none)∧∀ (_hk:0 < k+1) (h' : k+1 - 1 < x.o.length),some r=some x.o[k+1 - 1]∧x.o[k+1 - 1].ok x.t=true):=fun ho=>⟨fun h=>by omega,fun _ h'=>⟨by rw [hre]; rfl,by rw [hre] at ho; exact ho⟩⟩
   have HC:Hid (∀ _:0 < k,∃ u:ae,prev=some u∧u.ok x.t=true∧eY W.heap.size W b (off+(k - 1) * 3) u):=fun h=>⟨x.o[k - 1],(HP.out.2 h (by omega)).1,(HP.out.2 h (by omega)).2,hcell (k - 1) (by omega)⟩
   rw [← hre] at e0 e1 e2 HS
   simp only [hA] at s1
   clear hre hcell hrd
   go_wp2
   have hbV:=q.below.alloc q.size (.cells #[O U r.k,O U r.p,O U r.c] 147)
   have hlV:=ai.new q.val 147 #[O U r.k,O U r.p,O U r.c]
   generalize q.val.alloc (.cells #[O U r.k,O U r.p,O U r.c] 147)=V at hbV hlV ⊢
   generalize q.val.heap.size=gv at hlV ⊢
   obtain ⟨d0,d1,d2⟩:=eY.of (r:=r) hlV
   have up:∀ {a:Addr} {u:Value},(∀ p:ao W.heap.size W,p.val.cell? a=some u)→∀ p:ao V.heap.size V,p.val.cell? a=some u:=fun h p=>h ⟨p.val,hbV.trans (p.below.mono hbV.size)⟩
   have s0:=up s0
   have s1:=up s1
   have s2:=up s2
   have s3:=up s3
   have s4:=up s4
   have hxe:({ x with OA:=some ⟨b,off,none⟩ } : aM)=x:=by rw [← hA]
   have hRV:∀ p:ao V.heap.size V,aQ p.val p.val.heap.size { x with OA:=some ⟨b,off,none⟩ }:=fun p=>by rw [hxe]; exact hR.at ⟨p.val,hbV.trans (p.below.mono hbV.size)⟩
   clear hxe hA
   have HOK:Hid (r.ok x.t=(aN x.t r.k && bI r.p 1 999 && bI r.c 1 9999)):=rfl
   clear e0 e1 e2
   obtain ⟨X,hX⟩ : ∃ X,av x.t r.k=X:=⟨_,rfl⟩
   have HX:Hid (Value.int .i64 (av x.t r.k)=O U X):=by rw [hX]; rfl
   have HH:Hid (aN x.t r.k=decide (0≤X)):=by rw [← hX]; exact (cQ _ _).symm
   obtain ⟨v2,hv2⟩ : ∃ v,bI r.p 1 999=v:=⟨_,rfl⟩
   obtain ⟨v3,hv3⟩ : ∃ v,bI r.c 1 9999=v:=⟨_,rfl⟩
   rw [hv2,hv3] at HOK
   have HV2:=Lib.hid hv2; clear hv2
   have HV3:=Lib.hid hv3; clear hv3
   clear hX
   by_cases hX0:0≤X
   ·have hd0:decide (X < 0)=false:=decide_eq_false (by omega)
    have HXT:Hid (decide (0≤X)=true):=decide_eq_true hX0
    cases v2
    ·rcases Nat.eq_zero_or_pos k with h0 | h0
     ·have hd:decide (0 < k)=false:=decide_eq_false (by omega)
      clear h0
      refine au (by kernel_rfl) (by kernel_rfl) ?_
      repeat (any_goals (first | go_big_quiet_step ((first | (go_at_call 174; with_reducible refine aP HX (Nat.le_refl _) (bx { x with OA:=some ⟨b,off,none⟩ } r.k _ (hRV _))) | (go_at_call 134; with_reducible refine ay HV2 (aE r.p 1 999 _)))) | (refine wpQuiet_step (fun K hK=>?_); go_simp; split <;> (refine hK _ ?_; clear hK K))))
      all_goals (refine wpQuiet_nil ?_; rintro _ ⟨q1,rfl⟩)
      all_goals have hb1:=hb0.trans ((hbV.trans (q1.below.mono hbV.size)).mono hb0.size)
      all_goals go_wp2
      go_ret
      refine ⟨?_,hb1⟩
      rw [← HR.out,HS.out,HOK.out,Bool.and_false]; rfl
     ·have h0' : (0:Int) < (k:Int):=by omega
      refine au (by kernel_rfl) (by kernel_rfl) ?_
      repeat (any_goals (first | go_big_quiet_step ((first | (go_at_call 174; with_reducible refine aP HX (Nat.le_refl _) (bx { x with OA:=some ⟨b,off,none⟩ } r.k _ (hRV _))) | (go_at_call 134; with_reducible refine ay HV2 (aE r.p 1 999 _)))) | (refine wpQuiet_step (fun K hK=>?_); go_simp; split <;> (refine hK _ ?_; clear hK K))))
      all_goals (refine wpQuiet_nil ?_; rintro _ ⟨q1,rfl⟩)
      all_goals have hb1:=hb0.trans ((hbV.trans (q1.below.mono hbV.size)).mono hb0.size)
      all_goals go_wp2
      go_ret
      refine ⟨?_,hb1⟩
      rw [← HR.out,HS.out,HOK.out,Bool.and_false]; rfl
    ·cases v3
     ·rcases Nat.eq_zero_or_pos k with h0 | h0
      ·have hd:decide (0 < k)=false:=decide_eq_false (by omega)
       clear h0
       refine au (by kernel_rfl) (by kernel_rfl) ?_
       repeat (any_goals (first | go_big_quiet_step ((first | (go_at_call 174; with_reducible refine aP HX (Nat.le_refl _) (bx { x with OA:=some ⟨b,off,none⟩ } r.k _ (hRV _))) | (go_at_call 134; with_reducible refine ay HV2 (aE r.p 1 999 _)) | (go_at_call 134; with_reducible refine ay HV3 (aE r.c 1 9999 _)))) | (refine wpQuiet_step (fun K hK=>?_); go_simp; split <;> (refine hK _ ?_; clear hK K))))
       all_goals (refine wpQuiet_nil ?_; rintro _ ⟨q1,rfl⟩)
       all_goals have hb1:=hb0.trans ((hbV.trans (q1.below.mono hbV.size)).mono hb0.size)
       all_goals go_wp2
       go_ret
       refine ⟨?_,hb1⟩
       rw [← HR.out,HS.out,HOK.out,Bool.and_false]; rfl
      ·have h0' : (0:Int) < (k:Int):=by omega
       refine au (by kernel_rfl) (by kernel_rfl) ?_
       repeat (any_goals (first | go_big_quiet_step ((first | (go_at_call 174; with_reducible refine aP HX (Nat.le_refl _) (bx { x with OA:=some ⟨b,off,none⟩ } r.k _ (hRV _))) | (go_at_call 134; with_reducible refine ay HV2 (aE r.p 1 999 _)) | (go_at_call 134; with_reducible refine ay HV3 (aE r.c 1 9999 _)))) | (refine wpQuiet_step (fun K hK=>?_); go_simp; split <;> (refine hK _ ?_; clear hK K))))
       all_goals (refine wpQuiet_nil ?_; rintro _ ⟨q1,rfl⟩)
       all_goals have hb1:=hb0.trans ((hbV.trans (q1.below.mono hbV.size)).mono hb0.size)
       all_goals go_wp2
       go_ret
       refine ⟨?_,hb1⟩
       rw [← HR.out,HS.out,HOK.out,Bool.and_false]; rfl
     ·have HRO:Hid (r.ok x.t=true):=by unfold Hid; rw [HOK.out,HH.out,HXT.out]; rfl
      rcases Nat.eq_zero_or_pos k with h0 | h0
      ·have hd:decide (0 < k)=false:=decide_eq_false (by omega)
       have HP0:Hid (prev=none):=HP.out.1 h0
       clear h0
       refine au (by kernel_rfl) (by kernel_rfl) ?_
       repeat (any_goals (first | go_big_quiet_step ((first | (go_at_call 174; with_reducible refine aP HX (Nat.le_refl _) (bx { x with OA:=some ⟨b,off,none⟩ } r.k _ (hRV _))) | (go_at_call 134; with_reducible refine ay HV2 (aE r.p 1 999 _)) | (go_at_call 134; with_reducible refine ay HV3 (aE r.c 1 9999 _)))) | (refine wpQuiet_step (fun K hK=>?_); go_simp; split <;> (refine hK _ ?_; clear hK K))))
       all_goals (refine wpQuiet_nil ?_; rintro _ ⟨q1,rfl⟩)
       all_goals have hb1:=hb0.trans ((hbV.trans (q1.below.mono hbV.size)).mono hb0.size)
       all_goals go_wp2
       go_roundw
       case rel=>exact ⟨k+1,some r,by omega,by go_num,⟨⟨_,hbV.trans (q1.below.mono hbV.size)⟩,rfl⟩,by have h1:=HR.out; rw [HS.out,HRO.out,HP0.out] at h1; exact h1,HN.out HRO.out⟩
       case measure=>simp [intOf]; omega
      ·have h0' : (0:Int) < (k:Int):=by omega
       obtain ⟨u,hpu,huo,⟨t0,t1,t2⟩⟩:=HC.out h0
       have t0:=up t0
       have t1:=up t1
       have t2:=up t2
       subst hpu
       have HS2:Hid (cR x.t (some u) (x.o.drop k)=(r.ok x.t && before u r && cR x.t (some r) (x.o.drop (k+1)))):=HS.out
       obtain ⟨hh1,hp1,_⟩:=ae.bounds huo
       obtain ⟨hh2,hp2,_⟩:=ae.bounds HRO.out
       have HKU:=Lib.hid (And.intro (dW HALL.out hh1) hp1)
       have HKR:=Lib.hid (And.intro (dW HALL.out hh2) hp2)
       have HB:Hid (before u r=decide (1000 * u.k+u.p < 1000 * r.k+r.p)):=lI hp1 hp2
       clear huo hh1 hp1 hh2 hp2 up
       obtain ⟨K1,hK1⟩ : ∃ K,1000 * u.k+u.p=K:=⟨_,rfl⟩
       obtain ⟨K2,hK2⟩ : ∃ K,1000 * r.k+r.p=K:=⟨_,rfl⟩
       rw [hK1,hK2] at HB
       have HK1:Hid (Value.int .i64 (1000 * u.k+u.p)=O U K1):=by rw [hK1]; rfl
       have HK2:Hid (Value.int .i64 (1000 * r.k+r.p)=O U K2):=by rw [hK2]; rfl
       clear hK1 hK2
       refine au (by kernel_rfl) (by kernel_rfl) ?_
       repeat (any_goals (first | go_big_quiet_step ((first | (go_at_call 174; with_reducible refine aP HX (Nat.le_refl _) (bx { x with OA:=some ⟨b,off,none⟩ } r.k _ (hRV _))) | (go_at_call 134; with_reducible refine ay HV2 (aE r.p 1 999 _)) | (go_at_call 134; with_reducible refine ay HV3 (aE r.c 1 9999 _)) | (go_at_call 176; with_reducible refine aP HK1 (Nat.le_refl _) (ij u _ HKU.out.1 HKU.out.2)) | (go_at_call 176; with_reducible refine aP HK2 (Nat.le_refl _) (ij r _ HKR.out.1 HKR.out.2)))) | (refine wpQuiet_step (fun K hK=>?_); go_simp; split <;> (refine hK _ ?_; clear hK K))))
       all_goals (refine wpQuiet_nil ?_; rintro _ ⟨q1,rfl⟩)
       all_goals have hb1:=hb0.trans ((hbV.trans (q1.below.mono hbV.size)).mono hb0.size)
       all_goals go_wp2
       ·go_ret
        refine ⟨?_,hb1⟩
        have hm:K2≤K1:=by assumption
        rw [← HR.out,HS2.out,HRO.out,HB.out,decide_eq_false (by omega)]; rfl
       ·have hm:K1 < K2:=by assumption
        go_roundw
        case rel=>exact ⟨k+1,some r,by omega,by go_num,⟨⟨_,hbV.trans (q1.below.mono hbV.size)⟩,rfl⟩,by have h1:=HR.out; rw [HS2.out,HRO.out,HB.out,decide_eq_true hm] at h1; exact h1,HN.out HRO.out⟩
        case measure=>simp [intOf]; omega
   ·have hd0:decide (X < 0)=true:=decide_eq_true (by omega)
    have HXT:Hid (decide (0≤X)=false):=decide_eq_false hX0
    rcases Nat.eq_zero_or_pos k with h0 | h0
    ·have hd:decide (0 < k)=false:=decide_eq_false (by omega)
     clear h0
     refine au (by kernel_rfl) (by kernel_rfl) ?_
     repeat (any_goals (first | go_big_quiet_step ((go_at_call 174; with_reducible refine aP HX (Nat.le_refl _) (bx { x with OA:=some ⟨b,off,none⟩ } r.k _ (hRV _)))) | (refine wpQuiet_step (fun K hK=>?_); go_simp; split <;> (refine hK _ ?_; clear hK K))))
     all_goals (refine wpQuiet_nil ?_; rintro _ ⟨q1,rfl⟩)
     all_goals have hb1:=hb0.trans ((hbV.trans (q1.below.mono hbV.size)).mono hb0.size)
     all_goals go_wp2
     go_ret
     refine ⟨?_,hb1⟩
     rw [← HR.out,HS.out,HOK.out,HH.out,HXT.out]; rfl
    ·have h0' : (0:Int) < (k:Int):=by omega
     refine au (by kernel_rfl) (by kernel_rfl) ?_
     repeat (any_goals (first | go_big_quiet_step ((go_at_call 174; with_reducible refine aP HX (Nat.le_refl _) (bx { x with OA:=some ⟨b,off,none⟩ } r.k _ (hRV _)))) | (refine wpQuiet_step (fun K hK=>?_); go_simp; split <;> (refine hK _ ?_; clear hK K))))
     all_goals (refine wpQuiet_nil ?_; rintro _ ⟨q1,rfl⟩)
     all_goals have hb1:=hb0.trans ((hbV.trans (q1.below.mono hbV.size)).mono hb0.size)
     all_goals go_wp2
     go_ret
     refine ⟨?_,hb1⟩
     rw [← HR.out,HS.out,HOK.out,HH.out,HXT.out]; rfl
  ·have HK:Hid (dV x.t x.o=true):=by
    have h1:=HR.out
    rw [List.drop_eq_nil_of_le (by omega)] at h1; exact h1.symm
   clear hrd
   go_wp2
   go_ret
   refine ⟨?_,hb0.trans (q.below.mono hb0.size)⟩
   rw [HK.out,Bool.true_and]
   exact congrArg (fun b=>Ending.returned (.bool b)) (decide_eq_decide.2 (by omega))
end Go.Proofs.YtoeoimhemojdeaaGreatDoor
