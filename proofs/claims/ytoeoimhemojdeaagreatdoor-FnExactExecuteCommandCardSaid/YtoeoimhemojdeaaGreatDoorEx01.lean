/- Ex01: the texts NumF LogM SplitP Base In Ints More Tray Outing OffP StepP, joined into one file. -/
import Derived.Lib.ItoaNum
import Derived.Lib.ItoaLen
import Derived.Lib.AtoiTie
import Derived.Lib.IndexLaws
import Derived.Lib.LastIndexLaws
import Derived.Lib.IndexMore
import Derived.WalkKit
import Derived.WalkLawsBesides
import Derived.WalkSpells
import Derived.BigQuiet
import Derived.Deep.QuietTactic
import Derived.Deep.Draws
import Derived.Deep.MidRow
import Derived.Laws.CopyRow
import Derived.Outline
import Derived.Lib.Hide
import Derived.Handy
import Derived.Test.YtoeoimhemojdeaaGreatDoorProg

set_option linter.unusedVariables false
open Go.Value renaming int → O, slice → F, string → sK
open Go.IntKind renaming i64 → U

namespace Go.Proofs.YtoeoimhemojdeaaGreatDoor
def rx (n:Int):Prop:=-999999≤n∧n≤999999
theorem iD {d:Nat} (h:d < 10):Lib.digitVal (UInt8.ofNat (48+d))=some d:=by
 have:(UInt8.ofNat (48+d)).toNat=48+d:=by simp [UInt8.toNat_ofNat']; omega
 unfold Lib.digitVal
 rw [this,if_pos (by omega)]
 congr 1; omega
theorem kD:∀ (l r:List UInt8) (acc m:Nat),Lib.decFrom acc l=some m→Lib.decFrom acc (l++r)=Lib.decFrom m r
 | [],r,acc,m,h=>by simp only [Lib.decFrom,Option.some.injEq] at h; subst h; rfl
 | b :: l,r,acc,m,h=>by
  simp only [List.cons_append,Lib.decFrom] at h ⊢
  cases hb:Lib.digitVal b with
  | none=>rw [hb] at h; cases h
  | some d=>rw [hb] at h; exact kD l r _ _ h
theorem gf (n:Nat):Lib.decFrom 0 (Lib.decDigits n)=some n:=by
 induction n using Nat.strongRecOn with
 | _ n ih =>
  rw [Lib.decDigits]
  by_cases h:n < 10
  ·rw [dif_pos h]
   simp only [Lib.decFrom,iD h]
   congr 1; omega
  ·rw [dif_neg h,kD _ _ _ _ (ih (n / 10) (by omega))]
   simp only [Lib.decFrom,iD (Nat.mod_lt n (by omega:0 < 10))]
   congr 1; omega
theorem ry (n:Nat):Lib.decDigits n ≠ []:=by
 intro h
 have h1:=Lib.decDigits_length n
 have h2:=Lib.nDigits_pos n
 rw [h] at h1; simp at h1; omega
theorem mE (n:Nat):∀ b ∈ Lib.decDigits n,48≤b.toNat∧b.toNat≤57:=by
 intro b hb
 obtain ⟨k,hk,e⟩:=List.getElem_of_mem hb
 obtain ⟨d,hd⟩:=Lib.digit_of_decFrom _ _ _ (gf n) k b (by rw [List.getElem?_eq_getElem hk,e])
 have:=Lib.digitVal_eq hd
 omega
theorem lz (n:Nat):Lib.decNat (Lib.decDigits n)=some n:=by
 unfold Lib.decNat
 rw [if_neg (by simp [ry])]
 exact gf n
theorem j9 (n:Int):Lib.atoi (Lib.itoa n)=some n:=by
 unfold Lib.itoa
 by_cases h:n < 0
 ·rw [if_pos h]
  simp only [Lib.atoi,beq_self_eq_true,if_true,lz,Option.map_some,Option.some.injEq]
  omega
 ·rw [if_neg h]
  obtain ⟨m,rfl⟩:=Int.eq_ofNat_of_zero_le (by omega:0≤n)
  rw [Int.toNat_natCast]
  cases hd:Lib.decDigits m with
  | nil=>exact absurd hd (ry m)
  | cons b r =>
   have hb:=mE m b (by rw [hd]; simp)
   have h1:(b == 45)=false:=by
    rw [beq_eq_false_iff_ne]; intro e; subst e; have:(45:UInt8).toNat=45:=rfl; omega
   have h2:(b == 43)=false:=by
    rw [beq_eq_false_iff_ne]; intro e; subst e; have:(43:UInt8).toNat=43:=rfl; omega
   simp only [Lib.atoi,h1,h2,Bool.false_eq_true,if_false]
   rw [← hd,lz]
   rfl
theorem rz {n m:Int} (h:Lib.itoa n=Lib.itoa m):n=m:=by
 have:=j9 n
 rw [h,j9 m] at this
 exact (Option.some.inj this).symm
theorem gh {n:Nat} (h:n≤999999):Lib.nDigits n≤6:=by
 by_cases h0:n=0
 ·subst h0; rw [Lib.nDigits_small (by omega)]; omega
 ·have h1:=Lib.nDigits_pos n
  by_cases h2:Lib.nDigits n≤6
  ·exact h2
  ·exfalso
   have key:∀ (k n:Nat),n < 10 ^ (k+1)→Lib.nDigits n≤k+1:=by
    intro k
    induction k with
    | zero=>intro n hn; rw [Lib.nDigits_small (by simpa using hn)]; omega
    | succ k ih =>
     intro n hn
     by_cases hs:n < 10
     ·rw [Lib.nDigits_small hs]; omega
     ·rw [Lib.nDigits_big hs]
      have:=ih (n / 10) (Nat.div_lt_of_lt_mul (by rw [Nat.mul_comm,← Nat.pow_succ]; exact hn))
      omega
   exact h2 (key 5 n (by omega))
theorem rA {n:Int} (h:rx n):1≤(Lib.itoa n).length∧(Lib.itoa n).length≤7:=by
 unfold Lib.itoa
 obtain ⟨h1,h2⟩:=h
 split
 ·have:=gh (n:=n.natAbs) (by omega)
  rw [List.length_cons,Lib.decDigits_length]; omega
 ·have:=gh (n:=n.toNat) (by omega)
  have h3:=Lib.nDigits_pos n.toNat
  rw [Lib.decDigits_length]; omega
open Classical in
noncomputable def cg (s:List UInt8):Option Int:=if h:∃ n,rx n∧Lib.itoa n=s then some h.choose else none
theorem qw {n:Int} (h:rx n):cg (Lib.itoa n)=some n:=by
 have hex:∃ m,rx m∧Lib.itoa m=Lib.itoa n:=⟨n,h,rfl⟩
 unfold cg
 rw [dif_pos hex]
 exact congrArg some (rz hex.choose_spec.2)
theorem ls {n:Int} {s:List UInt8} (h:rx n) (e:Lib.itoa n=s):cg s=some n:=e ▸ qw h
theorem gi {n:Int} {s:List UInt8} (h:cg s=some n):rx n∧Lib.itoa n=s:=by
 by_cases hex:∃ m,rx m∧Lib.itoa m=s
 ·unfold cg at h
  rw [dif_pos hex] at h
  have:=hex.choose_spec
  rw [Option.some.inj h] at this
  exact this
 ·unfold cg at h
  rw [dif_neg hex] at h; cases h
theorem nO {n:Int} (h:rx n):Lib.atoiAll (Lib.itoa n)=.ok n:=by
 rw [Lib.atoiAll_short _ (by have:=rA h; omega),j9]; rfl
theorem rB {s:List UInt8} {n:Int} (h:rx n) (e:Lib.itoa n=s) :
  (n < 0∧∃ t,s=45 :: t∧1≤t.length∧t.length≤6∧Lib.decFrom 0 t=some n.natAbs) ∨ (0≤n∧s.head? ≠ some 45∧1≤s.length∧s.length≤6∧Lib.decFrom 0 s=some n.natAbs):=by
 obtain ⟨h1,h2⟩:=h
 unfold Lib.itoa at e
 by_cases hn:n < 0
 ·left
  rw [if_pos hn] at e
  have h3:=gh (n:=n.natAbs) (by omega)
  have h4:=Lib.nDigits_pos n.natAbs
  exact ⟨hn,_,e.symm,by rw [Lib.decDigits_length]; omega,by rw [Lib.decDigits_length]; omega,gf _⟩
 ·right
  rw [if_neg hn] at e
  have h3:=gh (n:=n.toNat) (by omega)
  have h4:=Lib.nDigits_pos n.toNat
  have h5:n.natAbs=n.toNat:=by omega
  subst e
  refine ⟨by omega, ?_,by rw [Lib.decDigits_length]; omega,by rw [Lib.decDigits_length]; omega,by rw [h5]; exact gf _⟩
  intro hh
  have hm:(45:UInt8) ∈ Lib.decDigits n.toNat:=List.mem_of_mem_head? hh
  have:=mE _ _ hm
  have h6:(45:UInt8).toNat=45:=rfl
  omega
end Go.Proofs.YtoeoimhemojdeaaGreatDoor
namespace Go.Proofs.YtoeoimhemojdeaaGreatDoor
def dy (b:UInt8):List UInt8→List UInt8
 | []=>[]
 | x :: l=>if x=b then [] else x :: dy b l
theorem jA {b:UInt8} : ∀ {l:List UInt8},b ∉ l→dy b l=l
 | [],_=>rfl
 | x :: l,h=>by
  simp only [List.mem_cons,not_or] at h
  unfold dy; rw [if_neg (Ne.symm h.1),jA h.2]
theorem fA {b:UInt8} {r:List UInt8} : ∀ {t:List UInt8},b ∉ t→dy b (t++b :: r)=t
 | [],_=>by simp [dy]
 | x :: l,h=>by
  simp only [List.mem_cons,not_or] at h
  rw [List.cons_append]; unfold dy; rw [if_neg (Ne.symm h.1),fA h.2]
theorem gj (b:UInt8):∀ l:List UInt8,b ∉ dy b l
 | []=>by simp [dy]
 | x :: l=>by
  unfold dy; split
  ·simp
  ·rename_i h; simp only [List.mem_cons,not_or]; exact ⟨Ne.symm h,gj b l⟩
theorem js (b:UInt8):∀ l:List UInt8,(b ∉ l∧dy b l=l) ∨ ∃ r,l=dy b l++b :: r
 | []=>.inl ⟨by simp,rfl⟩
 | x :: l=>by
  unfold dy
  by_cases h:x=b
  ·rw [if_pos h]; exact .inr ⟨l,by simp [h]⟩
  ·rw [if_neg h]
   rcases js b l with ⟨h1,h2⟩ | ⟨r,h1⟩
   ·exact .inl ⟨by simp only [List.mem_cons,not_or]; exact ⟨Ne.symm h,h1⟩,by rw [h2]⟩
   ·exact .inr ⟨r,by rw [List.cons_append,← h1]⟩
theorem jB (b:UInt8) (l:List UInt8):(dy b l).length≤l.length:=by
 rcases js b l with ⟨_,h⟩ | ⟨r,h⟩
 ·rw [h]; exact Nat.le_refl _
 ·have:=congrArg List.length h; simp at this; omega
theorem qx {b:UInt8} {l:List UInt8} : (dy b l).length=l.length ↔ b ∉ l:=by
 constructor
 ·intro h
  rcases js b l with ⟨h1,_⟩ | ⟨r,h1⟩
  ·exact h1
  ·have:=congrArg List.length h1; simp at this; omega
 ·intro h; rw [jA h]
theorem lA {b:UInt8} (l:List UInt8):l.take (dy b l).length=dy b l:=by
 rcases js b l with ⟨_,h⟩ | ⟨r,h⟩
 ·rw [h]; simp
 ·have e:(dy b l++b :: r).take (dy b l).length=dy b l:=List.take_left' rfl
  rwa [← h] at e
theorem dr {b:UInt8} {l:List UInt8} (h:b ∈ l):l=dy b l++b :: l.drop ((dy b l).length+1):=by
 rcases js b l with ⟨h1,_⟩ | ⟨r,h1⟩
 ·exact absurd h h1
 ·have e:(dy b l++b :: r).drop ((dy b l).length+1)=r:=by
   rw [List.drop_append,List.drop_eq_nil_of_le (by omega)]; simp
  rw [← h1] at e
  rw [e]; exact h1
theorem gl (s:List UInt8) (b:UInt8) (i:Nat):Lib.occAt s [b] i=decide (s[i]?=some b):=by
 unfold Lib.occAt
 rcases Nat.lt_or_ge i s.length with h | h
 ·rw [List.drop_eq_getElem_cons h,List.getElem?_eq_getElem h]
  by_cases e:s[i]=b
  ·subst e; simp [List.isPrefixOf]
  ·simp [List.isPrefixOf,e,Ne.symm e]
 ·rw [List.drop_eq_nil_of_le h,List.getElem?_eq_none h]; rfl
theorem iE {s:List UInt8} {b:UInt8} (h:b ∉ s):Lib.index s [b] = -1 :=
 Lib.index_none fun j _=>by
  rw [gl,decide_eq_false_iff_not]; intro e; exact h (List.mem_of_getElem? e)
theorem jf {t r:List UInt8} {b:UInt8} (h:b ∉ t):Lib.index (t++b :: r) [b]=t.length :=
 Lib.index_first (by simp) (by rw [gl]; simp) fun j hj=>by
  rw [gl,decide_eq_false_iff_not,List.getElem?_append_left hj]; intro e; exact h (List.mem_of_getElem? e)
theorem hH (s:List UInt8) (b:UInt8):(b ∉ s∧Lib.index s [b] = -1) ∨ (b ∈ s∧Lib.index s [b]=(dy b s).length):=by
 rcases js b s with ⟨h,_⟩ | ⟨r,h⟩
 ·exact .inl ⟨h,iE h⟩
 ·refine .inr ⟨by rw [h]; simp, ?_⟩
  rw (occs:=[1]) [h]; exact jf (gj b s)
theorem m3 (s:List UInt8) (b:UInt8):Lib.contains s [b]=s.contains b:=by
 unfold Lib.contains
 rcases hH s b with ⟨h,e⟩ | ⟨h,e⟩
 ·rw [e]; simp [h]
 ·rw [e]; simp [h]
theorem m4 {t r:List UInt8} {b:UInt8} (h:b ∉ r):Lib.lastIndex (t++b :: r) [b]=t.length:=by
 unfold Lib.lastIndex
 rw [if_pos (by simp; omega)]
 rcases Lib.lastOcc_spec (t++b :: r) [b] ((t++b :: r).length - [b].length+1) with ⟨_,hn⟩ | ⟨i,hi,e,ho,hn⟩
 ·have:=hn t.length (by simp; omega)
  rw [gl] at this; simp at this
 ·rw [e]
  rw [gl,decide_eq_true_eq] at ho
  rcases Nat.lt_trichotomy i t.length with hlt | heq | hgt
  ·have:=hn t.length hlt (by simp; omega)
   rw [gl] at this; simp at this
  ·rw [heq]
  ·exfalso
   rw [List.getElem?_append_right (by omega)] at ho
   obtain ⟨d,hd⟩ : ∃ d,i - t.length=d+1:=⟨i - t.length - 1,by omega⟩
   rw [hd,List.getElem?_cons_succ] at ho
   exact h (List.mem_of_getElem? ho)
theorem nP (s:List UInt8) (b:UInt8):Lib.lastIndex s [b] = -1 ∨ ∃ i:Nat,Lib.lastIndex s [b]=i∧i < s.length∧s[i]?=some b:=by
 unfold Lib.lastIndex
 split
 ·rcases Lib.lastOcc_spec s [b] (s.length - [b].length+1) with ⟨e,_⟩ | ⟨i,hi,e,ho,_⟩
  ·exact .inl e
  ·rw [gl,decide_eq_true_eq] at ho
   exact .inr ⟨i,e,(List.getElem?_eq_some_iff.1 ho).1,ho⟩
 ·exact .inl rfl
theorem qy:∀ (n:Nat) (c:UInt8),c ∈ Lib.decDigits n→48≤c.toNat∧c.toNat≤57:=by
 intro n
 induction n using Nat.strongRecOn with
 | ind n ih =>
  intro c hc
  rw [Lib.decDigits] at hc
  have one:∀ k,k < 10→c=UInt8.ofNat (48+k)→48≤c.toNat∧c.toNat≤57:=by
   intro k hk e
   have:c.toNat=48+k:=by rw [e,UInt8.toNat_ofNat']; omega
   omega
  split at hc
  ·rename_i h; exact one n h (by simpa using hc)
  ·rename_i h
   rcases List.mem_append.1 hc with h1 | h1
   ·exact ih (n / 10) (by omega) c h1
   ·exact one (n % 10) (by omega) (by simpa using h1)
theorem rC (n:Nat):Lib.itoa (n:Int)=Lib.decDigits n:=by unfold Lib.itoa; rw [if_neg (by omega),Int.toNat_natCast]
theorem iS {n:Nat} {b:UInt8} (h:b.toNat < 48 ∨ 57 < b.toNat):b ∉ Lib.itoa (n:Int):=by
 rw [rC]; intro hb; have:=qy n b hb; omega
theorem mF {n:Nat} (h:n≤9223372036854775807):(Lib.itoa (n:Int)).length≤21:=Lib.itoa_length_le _ (by omega) (by omega)
def iF (c:UInt8):Bool:=decide (32≤c.toNat) && decide (c.toNat≤126) && c != 35
def bT (l:List UInt8):Bool:=l.all iF
theorem lB {l:List UInt8} (h:bT l=true):(35:UInt8) ∉ l:=fun hm=>by
 have:=List.all_eq_true.1 h _ hm; simp [iF] at this
def iv (c r:List UInt8):Bool:=decide (1≤c.length) && decide (c.length≤160) && bT c && !c.contains 64 && bT r && decide (r.length≤200)
theorem de {c r:List UInt8} : iv c r=true ↔ 1≤c.length∧c.length≤160∧bT c=true∧(64:UInt8) ∉ c∧bT r=true∧r.length≤200:=by
 unfold iv; simp [Bool.and_eq_true,and_assoc]
def fB:Nat→List UInt8→Nat
 | h,[]=>h
 | h,c :: l=>fB ((41 * h+c.toNat+1) % 999979) l
theorem lC:∀ (l:List UInt8) (h:Nat),h < 999979→fB h l < 999979
 | [],_,h=>h
 | _ :: l,_,_=>lC l _ (Nat.mod_lt _ (by omega))
def hQ (l:List UInt8):Nat:=fB 7 l
theorem m5 (l:List UInt8):hQ l < 999979:=lC l 7 (by omega)
def ee (t:List UInt8):List UInt8:=t++35 :: Lib.itoa (hQ t)
theorem jC (t:List UInt8):(ee t).length≤t.length+22:=by
 have:=mF (n:=hQ t) (by have:=m5 t; omega)
 unfold ee; simp; omega
theorem fK {t:List UInt8} (h:(35:UInt8) ∉ t):dy 35 (ee t)=t:=fA h
theorem qz (t:List UInt8):Lib.lastIndex (ee t) [35]=t.length:=m4 (iS (by decide))
def eY (k:Nat) (c r:List UInt8):List UInt8:=Lib.itoa (k:Int)++[32]++c++[64]++r
def eI (k:Nat) (c r:List UInt8):List UInt8:=ee (eY k c r)++[10]
theorem fL {k:Nat} {c r:List UInt8} (h:iv c r=true):(35:UInt8) ∉ eY k c r:=by
 obtain ⟨_,_,h1,_,h2,_⟩:=de.1 h
 have a:=iS (n:=k) (b:=35) (by decide)
 have b:=lB h1
 have d:=lB h2
 unfold eY; simp [a,b,d]
theorem lu {k:Nat} {c r:List UInt8} (h:iv c r=true) (hk:k≤9223372036854775807):(eY k c r).length≤383:=by
 obtain ⟨_,h1,_,_,_,h2⟩:=de.1 h
 have:=mF hk
 unfold eY; simp; omega
theorem lD {k:Nat} {c r:List UInt8} (h:iv c r=true) (hk:k≤9223372036854775807):(eI k c r).length≤406:=by
 have:=lu h hk
 have:=jC (eY k c r)
 unfold eI; simp; omega
def rD (k:Nat) (c r s:List UInt8):Prop:=iv c r=true∧ee (eY k c r)=s
theorem rD.inj {k:Nat} {c r c' r' s:List UInt8} (h:rD k c r s) (h' : rD k c' r' s):c=c'∧r=r':=by
 obtain ⟨h1,h2⟩:=h
 obtain ⟨h1',h2'⟩:=h'
 have e:eY k c r=eY k c' r':=by rw [← fK (fL h1),← fK (fL h1'),h2,h2']
 unfold eY at e
 simp only [List.append_assoc] at e
 have e2:=List.append_cancel_left (List.append_cancel_left e)
 obtain ⟨_,_,_,n,_⟩:=de.1 h1
 obtain ⟨_,_,_,n',_⟩:=de.1 h1'
 have a:=fA (r:=r) n
 have a':=fA (r:=r') n'
 have e3:c++64 :: r=c'++64 :: r':=e2
 rw [e3,a'] at a
 subst a
 exact ⟨rfl,by simpa using List.append_cancel_left e3⟩
open Classical in
noncomputable def du (k:Nat) (s:List UInt8):Option (List UInt8 × List UInt8):=if h:∃ p:List UInt8 × List UInt8,rD k p.1 p.2 s then some h.choose else none
theorem mG {k:Nat} {c r s:List UInt8} (h:rD k c r s):du k s=some (c,r):=by
 have hex:∃ p:List UInt8 × List UInt8,rD k p.1 p.2 s:=⟨(c,r),h⟩
 unfold du
 rw [dif_pos hex]
 obtain ⟨e1,e2⟩:=hex.choose_spec.inj h
 exact congrArg some (Prod.ext e1 e2)
theorem eZ {k:Nat} {s:List UInt8} (h:∀ c r,¬ rD k c r s):du k s=none:=by
 unfold du
 rw [dif_neg (fun ⟨p,hp⟩=>h _ _ hp)]
theorem rE {k:Nat} {c r s:List UInt8} (h:du k s=some (c,r)):rD k c r s:=by
 by_cases hex:∃ p:List UInt8 × List UInt8,rD k p.1 p.2 s
 ·unfold du at h
  rw [dif_pos hex] at h
  have:=hex.choose_spec
  rw [Option.some.inj h] at this
  exact this
 ·unfold du at h
  rw [dif_neg hex] at h; cases h
def nN (t s:List UInt8):Prop:=(35:UInt8) ∉ t∧ee t=s∧t.length≤4000∧s.length≤4000
theorem nN.inj {t t' s:List UInt8} (h:nN t s) (h' : nN t' s):t=t':=by
 rw [← fK h.1,← fK h'.1,h.2.1,h'.2.1]
theorem rD.ver {k:Nat} {c r s:List UInt8} (h:rD k c r s) (hk:k≤9223372036854775807):nN (eY k c r) s:=by
 refine ⟨fL h.1,h.2,by have:=lu h.1 hk; omega, ?_⟩
 rw [← h.2]; have:=lu h.1 hk; have:=jC (eY k c r); omega
theorem pf {k:Nat} {s:List UInt8} (hk:k≤9223372036854775807) (h:∀ t,¬ nN t s):du k s=none:=eZ fun _ _ he=>h _ (he.ver hk)
theorem pg {k:Nat} {s t:List UInt8} (hk:k≤9223372036854775807) (hv:nN t s) (h : ¬ (Lib.itoa (k:Int)++[32]) <+: t):du k s=none:=eZ fun c r he=>h (by
 rw [hv.inj (he.ver hk)]
 exact ⟨c++[64]++r,by unfold eY; simp⟩)
theorem qA {k:Nat} {s t u:List UInt8} (hk:k≤9223372036854775807) (hv:nN t s) (ht:t=Lib.itoa (k:Int)++[32]++u) (h:(64:UInt8) ∉ u):du k s=none:=eZ fun c r he=>h (by
 have e:=hv.inj (he.ver hk)
 rw [ht] at e
 unfold eY at e
 simp only [List.append_assoc] at e
 have:=List.append_cancel_left (List.append_cancel_left e)
 rw [this]; simp)
theorem nQ {k:Nat} {s t c r:List UInt8} (hk:k≤9223372036854775807) (hv:nN t s) (ht:t=Lib.itoa (k:Int)++[32]++(c++64 :: r)) (hc:(64:UInt8) ∉ c) :
  du k s=if iv c r=true then some (c,r) else none:=by
 have e0:eY k c r=t:=by rw [ht]; unfold eY; simp
 split
 ·rename_i h; exact mG ⟨h,by rw [e0]; exact hv.2.1⟩
 ·rename_i h
  refine eZ fun c' r' he=>h ?_
  have e:=hv.inj (he.ver hk)
  rw [← e0] at e
  unfold eY at e
  simp only [List.append_assoc] at e
  have e2:=List.append_cancel_left (List.append_cancel_left e)
  have e3:c++64 :: r=c'++64 :: r':=e2
  obtain ⟨_,_,_,n',_⟩:=de.1 he.1
  have a:=fA (r:=r) hc
  rw [e3,fA n'] at a
  subst a
  have:r=r':=by simpa using List.append_cancel_left e3
  subst this
  exact he.1
theorem m6 {k:Nat} {s:List UInt8} (h : ¬ (Lib.itoa (k:Int)++[32]) <+: dy 35 s):du k s=none:=eZ fun c r he=>h (by
 rw [← he.2,fK (fL he.1)]
 exact ⟨c++[64]++r,by unfold eY; simp⟩)
theorem nR {k:Nat} {s u:List UInt8} (ht:dy 35 s=Lib.itoa (k:Int)++[32]++u) (h:(64:UInt8) ∉ u):du k s=none:=eZ fun c r he=>h (by
 rw [← he.2,fK (fL he.1)] at ht
 unfold eY at ht
 simp only [List.append_assoc] at ht
 have:=List.append_cancel_left (List.append_cancel_left ht)
 rw [← this]; simp)
theorem m7 {k:Nat} {s c r:List UInt8} (ht:dy 35 s=Lib.itoa (k:Int)++[32]++(c++64 :: r)) (hc:(64:UInt8) ∉ c) :
  du k s=if iv c r=true∧eI k c r=s++[10] then some (c,r) else none:=by
 split
 ·rename_i h; exact mG ⟨h.1,List.append_cancel_right h.2⟩
 ·rename_i h
  refine eZ fun c' r' he=>h ?_
  have e:=ht
  rw [← he.2,fK (fL he.1)] at e
  unfold eY at e
  simp only [List.append_assoc] at e
  have e2:=List.append_cancel_left (List.append_cancel_left e)
  have e3:c'++64 :: r'=c++64 :: r:=e2
  obtain ⟨_,_,_,n',_⟩:=de.1 he.1
  have a:=fA (r:=r) hc
  rw [← e3,fA n'] at a
  subst a
  have:r'=r:=by simpa using List.append_cancel_left e3
  subst this
  exact ⟨he.1,by unfold eI; rw [he.2]⟩
noncomputable def br:Nat→Nat→List UInt8→List ((List UInt8 × List UInt8) × Nat)
 | 0,_,_=>[]
 | n+1,k,s=>if (10:UInt8) ∈ s then
   match du k (dy 10 s) with
   | none=>[]
   | some e=>(e,(dy 10 s).length+1) :: br n (k+1) (s.drop ((dy 10 s).length+1))
  else []
def eh (l:List ((List UInt8 × List UInt8) × Nat)):Nat:=(l.map (·.2)).sum
theorem gE (e:(List UInt8 × List UInt8) × Nat) (l:List ((List UInt8 × List UInt8) × Nat)):eh (e :: l)=e.2+eh l:=by simp [eh]
theorem eJ {n k:Nat} {s:List UInt8} (h:(10:UInt8) ∉ s):br n k s = []:=by cases n <;> simp [br,h]
theorem eB {n k:Nat} {s:List UInt8} (h:du k (dy 10 s)=none):br n k s = []:=by cases n <;> simp [br,h]
theorem eC {n k:Nat} {s:List UInt8} {e:List UInt8 × List UInt8} (h1:(10:UInt8) ∈ s) (h2:du k (dy 10 s)=some e) :
  br (n+1) k s=(e,(dy 10 s).length+1) :: br n (k+1) (s.drop ((dy 10 s).length+1)):=by simp [br,h1,h2]
theorem hU:∀ (n k:Nat) (s:List UInt8),eh (br n k s)≤s.length
 | 0,_,_=>by simp [br,eh]
 | n+1,k,s=>by
  by_cases h1:(10:UInt8) ∈ s
  ·cases h2:du k (dy 10 s) with
   | none=>rw [eB h2]; simp [eh]
   | some e =>
    rw [eC h1 h2,gE]
    have:=hU n (k+1) (s.drop ((dy 10 s).length+1))
    have h3:=congrArg List.length (dr h1)
    simp at this h3
    simp only
    omega
  ·rw [eJ h1]; simp [eh]
theorem dU:∀ (n k:Nat) (s:List UInt8),(br n k s).length≤n
 | 0,_,_=>by simp [br]
 | n+1,k,s=>by
  by_cases h1:(10:UInt8) ∈ s
  ·cases h2:du k (dy 10 s) with
   | none=>rw [eB h2]; simp
   | some e=>rw [eC h1 h2,List.length_cons]; have:=dU n (k+1) (s.drop ((dy 10 s).length+1)); omega
  ·rw [eJ h1]; simp
theorem kE:∀ (n k:Nat) (s:List UInt8),n+k≤1000→eh (br n k s)≤406 * n
 | 0,_,_,_=>by simp [br,eh]
 | n+1,k,s,h=>by
  by_cases h1:(10:UInt8) ∈ s
  ·cases h2:du k (dy 10 s) with
   | none=>rw [eB h2]; simp [eh]
   | some e =>
    rw [eC h1 h2,gE]
    have:=kE n (k+1) (s.drop ((dy 10 s).length+1)) (by omega)
    obtain ⟨c,r⟩:=e
    have he:=rE h2
    have hl:=lD (k:=k) he.1 (by omega)
    unfold eI at hl; rw [he.2] at hl; simp at hl
    simp only
    omega
  ·rw [eJ h1]; simp [eh]
def df:Nat→List ((List UInt8 × List UInt8) × Nat)→List Nat
 | a,[]=>[a]
 | a,e :: l=>a :: df (a+e.2) l
theorem rF (a:Nat) (l:List ((List UInt8 × List UInt8) × Nat)):df a l ≠ []:=by cases l <;> simp [df]
theorem ia:∀ (a:Nat) (l:List ((List UInt8 × List UInt8) × Nat)),(df a l).length=l.length+1
 | _,[]=>rfl
 | a,_ :: l=>by simp [df,ia (a+_) l]
theorem lE:∀ (a:Nat) (l:List ((List UInt8 × List UInt8) × Nat)) (e:(List UInt8 × List UInt8) × Nat),df a (l++[e])=df a l++[a+eh l+e.2]
 | a,[],e=>by simp [df,eh]
 | a,x :: l,e=>by simp [df,lE (a+x.2) l e,gE,Nat.add_assoc]
theorem lF:∀ (a:Nat) (l:List ((List UInt8 × List UInt8) × Nat)),(df a l)[l.length]?=some (a+eh l)
 | _,[]=>by simp [df,eh]
 | a,x :: l=>by simp [df,lF (a+x.2) l,gE,Nat.add_assoc]
theorem nS:∀ (a:Nat) (l:List ((List UInt8 × List UInt8) × Nat)) (x:Nat),x ∈ df a l→a≤x
 | a,[],x,h=>by simp [df] at h; omega
 | a,e :: l,x,h=>by
  simp only [df,List.mem_cons] at h
  rcases h with h | h
  ·omega
  ·have:=nS (a+e.2) l x h; omega
theorem nT:∀ (n k a:Nat) (D P:List UInt8),a+D.length ∈ df a (br n k (D++P)) ↔ eh (br n k D)=D.length
 | 0,k,a,D,P=>by simp only [br,df,eh,List.map_nil,List.sum_nil,List.mem_singleton]; omega
 | n+1,k,a,D,P=>by
  by_cases hD:D.length=0
  ·have:D = []:=List.eq_nil_of_length_eq_zero hD
   subst this
   rw [eJ (s:=[]) (by simp)]
   constructor
   ·intro _; rfl
   ·intro _
    have:df a (br (n+1) k ([]++P)) ≠ []:=rF _ _
    cases h:br (n+1) k ([]++P) <;> simp [df]
  ·by_cases h1:(10:UInt8) ∈ D
   ·have e1:=dr h1
    have h1' : (10:UInt8) ∈ D++P:=by simp [h1]
    have hb:dy 10 (D++P)=dy 10 D:=by
     rw (occs:=[1]) [e1]
     rw [List.append_assoc,List.cons_append]; exact fA (gj 10 D)
    have hlen:(dy 10 D).length+1≤D.length:=by have:=congrArg List.length e1; simp at this; omega
    cases h2:du k (dy 10 D) with
    | none =>
     rw [eB (by rw [hb]; exact h2),eB h2]
     simp only [df,eh,List.map_nil,List.sum_nil,List.mem_singleton]; omega
    | some e =>
     rw [eC h1' (by rw [hb]; exact h2),eC h1 h2,hb]
     have e2:(D++P).drop ((dy 10 D).length+1)=D.drop ((dy 10 D).length+1)++P:=List.drop_append_of_le_length hlen
     rw [e2,gE]
     simp only [df,List.mem_cons]
     have ih:=nT n (k+1) (a+((dy 10 D).length+1)) (D.drop ((dy 10 D).length+1)) P
     rw [List.length_drop] at ih
     have e3:a+((dy 10 D).length+1)+(D.length - ((dy 10 D).length+1))=a+D.length:=by omega
     rw [e3] at ih
     constructor
     ·rintro (h | h)
      ·omega
      ·have:=ih.1 h; omega
     ·intro h
      exact .inr (ih.2 (by omega))
   ·rw [eJ h1]
    simp only [eh,List.map_nil,List.sum_nil]
    constructor
    ·intro h
     exfalso
     by_cases h3:(10:UInt8) ∈ D++P
     ·cases h2:du k (dy 10 (D++P)) with
      | none=>rw [eB h2] at h; simp only [df,List.mem_singleton] at h; omega
      | some e =>
       rw [eC h3 h2] at h
       simp only [df,List.mem_cons] at h
       rcases h with h | h
       ·omega
       ·have:=nS _ _ _ h
        have hge:D.length≤(dy 10 (D++P)).length:=by
         rcases Nat.lt_or_ge (dy 10 (D++P)).length D.length with hlt | hge
         ·exfalso
          have e4:=dr h3
          have h5:(D++P)[(dy 10 (D++P)).length]?=some 10:=by rw (occs:=[1]) [e4]; simp
          rw [List.getElem?_append_left hlt] at h5
          exact h1 (List.mem_of_getElem? h5)
         ·exact hge
        omega
     ·rw [eJ h3] at h; simp only [df,List.mem_singleton] at h; omega
    ·intro h; omega
noncomputable def qd (D P:List UInt8) (n:Int):Bool :=
 decide (eh (br 60 0 (D++P))=D.length+P.length) && decide (eh (br 60 0 D)=D.length) && decide (((br 60 0 (D++P)).length:Int)=n)
theorem nU {D P:List UInt8} (h:eh (br 60 0 (D++P))=D.length+P.length):D.length+P.length≤30000:=by
 have:=kE 60 0 (D++P) (by omega); omega
theorem gF {D P:List UInt8} {n:Int} : qd D P n=true ↔ eh (br 60 0 (D++P))=D.length+P.length∧eh (br 60 0 D)=D.length∧((br 60 0 (D++P)).length:Int)=n:=by
 unfold qd; simp [Bool.and_eq_true,and_assoc]
theorem ph {D P:List UInt8} {n:Int} : qd D P n=true ↔ eh (br 60 0 (D++P))=D.length+P.length∧D.length ∈ df 0 (br 60 0 (D++P))∧n=((br 60 0 (D++P)).length:Int):=by
 have:=nT 60 0 0 D P
 rw [Nat.zero_add] at this
 rw [gF,this]
 constructor <;> (rintro ⟨h1,h2,h3⟩; exact ⟨h1,h2,h3.symm⟩)
end Go.Proofs.YtoeoimhemojdeaaGreatDoor
namespace Go.Proofs.YtoeoimhemojdeaaGreatDoor
def cq (b:UInt8):List UInt8→List UInt8→List (List UInt8)
 | cur,[]=>[cur]
 | cur,x :: l=>if x=b then cur :: cq b [] l else cq b (cur++[x]) l
def aJ (b:UInt8) (s:List UInt8):List (List UInt8):=cq b [] s
theorem lG {b:UInt8} : ∀ {l cur:List UInt8},b ∉ l→cq b cur l = [cur++l]
 | [],_,_=>by simp [cq]
 | x :: l,cur,h=>by
  simp only [List.mem_cons,not_or] at h
  rw [cq,if_neg (Ne.symm h.1),lG h.2]; simp
theorem mH {b:UInt8} {r:List UInt8} : ∀ {t cur:List UInt8},b ∉ t→cq b cur (t++b :: r)=(cur++t) :: cq b [] r
 | [],_,_=>by simp [cq]
 | x :: t,cur,h=>by
  simp only [List.mem_cons,not_or] at h
  rw [List.cons_append,cq,if_neg (Ne.symm h.1),mH h.2]; simp
theorem jt {b:UInt8} {l:List UInt8} (h:b ∉ l):aJ b l = [l]:=by unfold aJ; rw [lG h]; rfl
theorem mI {b:UInt8} {t r:List UInt8} (h:b ∉ t):aJ b (t++b :: r)=t :: aJ b r:=by unfold aJ; rw [mH h]; rfl
theorem jD (b:UInt8):∀ (l cur:List UInt8),cq b cur l ≠ []
 | [],_=>by simp [cq]
 | x :: l,cur=>by
  unfold cq; split
  ·simp
  ·exact jD b l _
theorem fa (b:UInt8):∀ (l cur:List UInt8),(cq b cur l).length≤l.length+1
 | [],_=>by simp [cq]
 | x :: l,cur=>by
  unfold cq; split
  ·have:=fa b l []; simp; omega
  ·have:=fa b l (cur++[x]); simp; omega
theorem ka {b:UInt8} {t:List UInt8} : ∀ (l cur:List UInt8),t ∈ cq b cur l→t.length≤cur.length+l.length
 | [],cur,h=>by simp only [cq,List.mem_singleton] at h; subst h; simp
 | x :: l,cur,h=>by
  unfold cq at h; split at h
  ·rcases List.mem_cons.1 h with h | h
   ·subst h; omega
   ·have:=ka l [] h; simp at this ⊢; omega
  ·have:=ka l _ h; simp at this ⊢; omega
theorem fM (b:UInt8) (s:List UInt8):∃ ps,aJ b s=dy b s :: ps∧(ps = [] ↔ b ∉ s):=by
 rcases js b s with ⟨h1,h2⟩ | ⟨r,h⟩
 ·exact ⟨[],by rw [jt h1,h2],by simp [h1]⟩
 ·refine ⟨aJ b r, ?_, ?_⟩
  ·have h1:=mI (r:=r) (gj b s)
   rw [← h] at h1; exact h1
  ·constructor
   ·intro e; exact absurd e (jD b r [])
   ·intro hn; exact absurd (by rw [h]; simp) hn
end Go.Proofs.YtoeoimhemojdeaaGreatDoor
namespace Go.Proofs.YtoeoimhemojdeaaGreatDoor
open Go.RowKit
structure an (B:Nat) (w:World) where
 val:World
 below:Below B w val
theorem an.cell {B:Nat} {w:World} (p:an B w) {a:Addr} (h:a.block < B):p.val.cell? a=w.cell? a:=p.below.cell h
theorem an.size {B:Nat} {w:World} (p:an B w):w.heap.size≤p.val.heap.size:=p.below.size
def an.start (B:Nat) (w:World):an B w:=⟨w,Below.refl B w⟩
instance an.any (B:Nat) (w:World):Inhabited (an B w):=⟨an.start B w⟩
def an.go {B:Nat} {w:World} (p:an B w) {w' : World} (hB:B≤w.heap.size) (h:Below p.val.heap.size p.val w'):an B w :=
 ⟨w',p.below.trans (h.mono (Nat.le_trans hB p.size))⟩
def an.go' {B:Nat} {w:World} (p:an B w) {w' : World} (h:Below B p.val w'):an B w:=⟨w',p.below.trans h⟩
theorem bp {P:Program} {id:Nat} {Q:Exit→Act→World→Prop} {a:Act} {B:Nat} {w:World} {l:List Oper} (p:an B w) (hm:P.follows .mixedOrders=true) (hB:Region.lexB .any l.toArray=true)
  (h:wpQuiet P l.toArray (fun w'=>∃ q:an B w,w'=q.val) (fun a'=>∀ w',(∃ q:an B w,w'=q.val)→Q .normal a' w') l a):(Code.region id l.toArray true).wp P Q a p.val :=
 wp_region_quiet (C:=fun w'=>∃ q:an B w,w'=q.val) hm hB ⟨⟨_,p.below.drew⟩,rfl⟩ (by simpa using h)
theorem ap {P:Program} {id:Nat} {Q:Exit→Act→World→Prop} {a:Act} {w:World} {l:List Oper} (hm:P.follows .mixedOrders=true) (hB:Region.lexB .any l.toArray=true)
  (h:wpQuiet P l.toArray (fun w'=>∃ q:an w.heap.size w,w'=q.val) (fun a'=>∀ w',(∃ q:an w.heap.size w,w'=q.val)→Q .normal a' w') l a):(Code.region id l.toArray true).wp P Q a w :=
 bp (an.start w.heap.size w) hm hB h
theorem aK {P:Program} {f:FuncId} {args:Array Value} {B:Nat} {w:World} {q:an B w} {v:Value} (hB:B≤w.heap.size)
  (h:Calls P f args q.val fun e w'=>e=.returned v∧Below q.val.heap.size q.val w'):Calls P f args q.val fun e w'=>e=.returned v∧∃ q' : an B w,w'=q'.val :=
 h.mono fun _ _ ⟨he,hb⟩=>⟨he,q.go hB hb,rfl⟩
theorem jE {P:Program} {f:FuncId} {args:Array Value} {B:Nat} {w:World} {q:an B w} {b b' : Bool} (hb:Hid (b=b')) (hB:B≤w.heap.size)
  (h:Calls P f args q.val fun e w'=>e=.returned (.bool b)∧Below q.val.heap.size q.val w'):Calls P f args q.val fun e w'=>e=.returned (.bool b')∧∃ q' : an B w,w'=q'.val:=by
 have:=hb.out; subst this; exact aK hB h
theorem pi {P:Program} {f:FuncId} {args:Array Value} {B:Nat} {w:World} {q:an B w} {v:Value}
  (h:Calls P f args q.val fun e w'=>e=.returned v∧q.val=w'):Calls P f args q.val fun e w'=>e=.returned v∧∃ q' : an B w,w'=q'.val :=
 h.mono fun _ _ ⟨he,hb⟩=>⟨he,q,hb.symm⟩
theorem ax {P:Program} {f:FuncId} {args:Array Value} {B:Nat} {w:World} {q:an B w} {b b' : Bool} (hb:Hid (b=b'))
  (h:Calls P f args q.val fun e w'=>e=.returned (.bool b)∧q.val=w'):Calls P f args q.val fun e w'=>e=.returned (.bool b')∧∃ q' : an B w,w'=q'.val:=by
 have:=hb.out; subst this; exact pi h
theorem aq {a b c:World} (h:Below a.heap.size a b) (k:Below b.heap.size b c):Below a.heap.size a c:=h.trans (k.mono h.size)
theorem aT {P:Program} {f:FuncId} {args:Array Value} {W:World} {v:Value}
  (h:Calls P f args W fun e w'=>e=.returned v∧Below W.heap.size W w'):Calls P f args W fun e w'=>e=.returned v∧∃ q' : an W.heap.size W,w'=q'.val :=
 h.mono fun _ _ ⟨he,hb⟩=>⟨he,⟨_,hb⟩,rfl⟩
structure bv (w:World) (B k:Nat) (A:Option Addr) (n:Nat) (cs:List Value):Prop where
 len:cs.length=n * k
 big:n≤9223372036854775807
 at_:0 < n→∃ b off,A=some ⟨b,off,none⟩∧b < B∧∀ j u,cs[j]?=some u→w.cell? ⟨b,off+j,none⟩=some u
theorem bv.keep {w w' : World} {B k n:Nat} {A:Option Addr} {cs:List Value} (h:bv w B k A n cs) (hk:∀ p:Addr,p.block < B→w'.cell? p=w.cell? p):bv w' B k A n cs :=
 ⟨h.len,h.big,fun hn=>by
  obtain ⟨b,off,e,hb,hc⟩:=h.at_ hn
  exact ⟨b,off,e,hb,fun j u hu=>(hk _ hb).trans (hc j u hu)⟩⟩
theorem bv.below {w w' : World} {B k n:Nat} {A:Option Addr} {cs:List Value} (h:bv w B k A n cs) (hb:Below B w w'):bv w' B k A n cs:=h.keep fun _ hp=>hb.cell hp
theorem bv.mono {w:World} {B B' k n:Nat} {A:Option Addr} {cs:List Value} (h:bv w B k A n cs) (hB:B≤B'):bv w B' k A n cs :=
 ⟨h.len,h.big,fun hn=>by
  obtain ⟨b,off,e,hb,hc⟩:=h.at_ hn
  exact ⟨b,off,e,by omega,hc⟩⟩
theorem bv.up {w w' : World} {B k n:Nat} {A:Option Addr} {cs:List Value} (h:bv w B k A n cs) (hb:Below B w w') (hB:B≤w.heap.size):bv w' w'.heap.size k A n cs :=
 (h.below hb).mono (Nat.le_trans hB hb.size)
theorem bv.then {w w' : World} {k n:Nat} {A:Option Addr} {cs:List Value} (h:bv w w.heap.size k A n cs) (hb:Below w.heap.size w w'):bv w' w'.heap.size k A n cs:=(h.below hb).mono hb.size
theorem bv.nil (w:World) (B k:Nat) (A:Option Addr):bv w B k A 0 []:=⟨by simp,by omega,fun h=>absurd h (by omega)⟩
theorem iT {α:Type} (enc:α→List Value) (k:Nat) (hk:∀ x,(enc x).length=k):∀ (l:List α) (i:Nat) (h:i < l.length) (j:Nat),j < k→(l.flatMap enc)[i * k+j]?=(enc l[i])[j]?
 | x :: l,0,_,j,hj=>by
  simp only [List.flatMap_cons,Nat.zero_mul,Nat.zero_add,List.getElem_cons_zero]
  rw [List.getElem?_append_left (by rw [hk]; exact hj)]
 | x :: l,i+1,h,j,hj=>by
  have e:(i+1) * k+j=(enc x).length+(i * k+j):=by rw [hk,Nat.succ_mul]; omega
  simp only [List.flatMap_cons,List.getElem_cons_succ]
  rw [e,List.getElem?_append_right (by omega),Nat.add_sub_cancel_left]
  exact iT enc k hk l i (by simpa using h) j hj
theorem fq {α:Type} (enc:α→List Value) (k:Nat) (hk:∀ x,(enc x).length=k):∀ l:List α,(l.flatMap enc).length=l.length * k
 | []=>by simp
 | x :: l=>by simp only [List.flatMap_cons,List.length_append,fq enc k hk l,hk,List.length_cons,Nat.succ_mul]; omega
def ai (w:World) (g:Nat) (t:TypeId) (cs:List Value):Prop:=w.heap[g]?=some (.cells cs.toArray t (0,0))
section
variable {w w' : World} {g:Nat} {t:TypeId} {cs:List Value}
theorem ai.lt (h:ai w g t cs):g < w.heap.size:=by
 rcases Nat.lt_or_ge g w.heap.size with hlt | hge
 ·exact hlt
 ·unfold ai at h; rw [Array.getElem?_eq_none hge] at h; cases h
theorem ai.cell (h:ai w g t cs) (i:Nat):w.cell? ⟨g,i,none⟩=cs[i]?:=by rw [cell_of_row w g i _ t (0,0) h]; simp
theorem ai.frozen (h:ai w g t cs) (i:Nat):w.frozen? ⟨g,i,none⟩=false:=frozen_of_row w g i _ t h
theorem ai.below {B:Nat} (h:ai w g t cs) (hb:Below B w w') (hg:g < B):ai w' g t cs:=(hb.block g hg).trans h
theorem ai.kept {row:Option Nat} (h:ai w g t cs) (hb:w.grownBy w' row) (hg:some g ≠ row):ai w' g t cs:=(hb.block g h.lt hg).trans h
theorem ai.alloc (h:ai w g t cs) (o:Obj):ai (w.alloc o) g t cs:=(Below.heap_alloc w o g h.lt).trans h
theorem ai.set (h:ai w g t cs) (i:Nat) (u:Value):ai (w.setCell ⟨g,i,none⟩ u) g t (cs.set i u):=by
 have:=heap_setCell_same w g i cs.toArray t u h
 unfold ai; rw [this]; simp
theorem ai.other (h:ai w g t cs) {p:Addr} (hp:g ≠ p.block) (u:Value):ai (w.setCell p u) g t cs:=(Below.heap_setCell w p u g hp).trans h
theorem ai.reads {k n:Nat} (h:ai w g t cs) (hl:cs.length=n * k) (hn:n≤9223372036854775807):bv w w.heap.size k (some ⟨g,0,none⟩) n cs :=
 ⟨hl,hn,fun _=>⟨g,0,rfl,h.lt,fun j u hu=>by rw [Nat.zero_add,h.cell]; exact hu⟩⟩
end
theorem ai.new (w:World) (t:TypeId) (cs:Array Value):ai (w.alloc (.cells cs t)) w.heap.size t cs.toList:=heap_alloc_new w _
theorem ai.of {w:World} {g:Nat} {t:TypeId} {cs:Array Value} (h:w.heap[g]?=some (.cells cs t (0,0))):ai w g t cs.toList:=h
theorem ai.own {w:World} {g:Nat} {t:TypeId} {cs:List Value} (h:ai w g t cs) {B k n:Nat} (hB:B≤g) (hl:cs.length=n * k) (hn:n≤maxLen):w.ownsRow B t k (F (some ⟨g,0,none⟩) n n) n cs:=by
 refine ⟨hl,Or.inr ⟨g,n,_,rfl,hB,h,Nat.le_refl _,hn,by simpa using hl, ?_⟩⟩
 simp only
 exact List.take_of_length_le (by omega)
def aU (cs:List Value) (i:Nat) (vs:List Value):List Value:=cs.take i++vs++cs.drop (i+vs.length)
theorem kb {P:Program} {ops:Array Oper} {rest:List Oper} {op:Oper} {a:Act} {w:World} {Q:Exit→Act→World→Prop} (hgd:op.guard=none) (ty:TypeId) (x y:Operand) (ho:op.op=.store ty x y)
  (g o:Nat) (t:TypeId) (vs:Array Value) (hx:a.eval x=.pointer (some ⟨g,o,none⟩)) (hy:a.eval y=.agg vs)
  (cs:List Value) (hl:ai w g t cs) (hfit:o+vs.size≤cs.length) (hi:(P.info? ty).map (·.size)=some vs.size) (h1:vs.all (·.oneCell')=true)
  (h:∀ w',ai w' g t (aU cs o vs.toList)→w.grownBy w' (some g)→wpList P ops Q rest (a.put op.dst undef) w'):wpList P ops Q (op :: rest) a w:=by
 refine wpList_plain hgd fun K hK=>?_
 have hrun:=run_storeCells_at (P:=P) g o t vs.toList 0 cs.toArray w hl (by simpa using hfit) (fun v hv=>(Array.all_eq_true_iff_forall_mem.1 h1) v (by simpa using hv))
 cases hq:P.info? ty with
 | none=>simp [hq] at hi
 | some i =>
  have hs:vs.size=i.size:=by simp [hq] at hi; omega
  unfold Oper.wp execOp
  simp only [ho,hx,hy,Instr.storeAt,Instr.sureAddr,Sem.run_bind,Sem.run_pure,Result.andThen_ok]
  simp only [Nat.add_zero] at hrun
  simp [storeVar,sizeOf,typeInfo,hq,Value.cells,← hs,hrun,Oper.upon]
  refine hK _ _ (h _ ?_ ?_)
  ·have:=setRow_heap w g cs.toArray (cs.take o++vs.toList++cs.drop (o+vs.size)).toArray t _ hl
   unfold ai aU
   simpa using this
  ·refine ⟨rfl,rfl,rfl,by simp [World.setRow],fun k hk hne=>?_⟩
   simp only [World.setRow,Array.getElem?_modify]
   rw [if_neg (fun e=>hne (by rw [e]))]
theorem nV {α:Type} (enc:α→List Value) (k:Nat) (hk:∀ x,(enc x).length=k) (l:List α) (i:Nat) (hi:i < l.length) (rest:List Value) (hr:rest.length=(l.length - i) * k) :
  ∃ rest',aU ((l.take i).flatMap enc++rest) (i * k) (enc l[i])=(l.take (i+1)).flatMap enc++rest'∧rest'.length=(l.length - (i+1)) * k:=by
 refine ⟨rest.drop k, ?_, ?_⟩
 ·have e1:((l.take i).flatMap enc).length=i * k:=by rw [fq enc k hk,List.length_take,Nat.min_eq_left (by omega)]
  unfold aU
  rw [List.take_append_of_le_length (by omega),List.take_of_length_le (by omega),List.drop_append,List.drop_eq_nil_of_le (by rw [e1,hk]; omega),e1,hk,List.nil_append]
  rw [List.take_succ_eq_append_getElem hi,List.flatMap_append,List.flatMap_cons,List.flatMap_nil,List.append_nil,Nat.add_sub_cancel_left]
 ·rw [List.length_drop,hr]
  obtain ⟨d,hd⟩ : ∃ d,l.length - i=d+1:=⟨l.length - i - 1,by omega⟩
  have hd' : l.length - (i+1)=d:=by omega
  rw [hd,hd',Nat.succ_mul,Nat.add_sub_cancel]
theorem gm {P:Program} {ops:Array Oper} {rest:List Oper} {op:Oper} {a:Act} {w:World} {Q:Exit→Act→World→Prop} (hgd:op.guard=none) (ty:TypeId) (x y:Operand) (ho:op.op=.store ty x y)
  {α:Type} (enc:α→List Value) (ksz:Nat) (hk:∀ x,(enc x).length=ksz) (l:List α) (k:Nat) (hlt:k < l.length) (old:List Value) (hold:Hid (old.length=(l.length - k) * ksz))
  (g:Nat) (t:TypeId) (vs:Array Value) (hx:a.eval x=.pointer (some ⟨g,k * ksz,none⟩)) (hy:a.eval y=.agg vs) (hv:Hid (vs.toList=enc l[k]))
  (hi:(P.info? ty).map (·.size)=some ksz) (h1:vs.all (·.oneCell')=true) (hl:ai w g t ((l.take k).flatMap enc++old))
  (h:∀ w' old',Hid (ai w' g t ((l.take (k+1)).flatMap enc++old'))→Hid (old'.length=(l.length - (k+1)) * ksz)→w.grownBy w' (some g)→wpList P ops Q rest (a.put op.dst undef) w'):wpList P ops Q (op :: rest) a w:=by
 have hv':=hv.out
 have hold':=hold.out
 have hsz:vs.size=ksz:=by have:=congrArg List.length hv'; simpa [hk] using this
 obtain ⟨old',he,hl'⟩:=nV enc ksz hk l k hlt old hold'
 refine kb hgd ty x y ho g (k * ksz) t vs hx hy _ hl ?_ (by rw [hi,hsz]) h1 fun w' h2 h3=>h w' old' ?_ hl' h3
 ·rw [hsz,List.length_append,fq enc ksz hk,List.length_take,Nat.min_eq_left (by omega),hold']
  have:l.length - k=l.length - k - 1+1:=by omega
  rw [this,Nat.succ_mul]; omega
 ·rw [hv',he] at h2; exact h2
theorem jF {P:Program} (t e:TypeId) (z:Value) (size bytes:Nat) (ht:P.underlying t=some (.slice e)) (hinfo:(P.info? e).map (fun i=>(i.zero,i.size,i.bytes))=some (some z,size,bytes))
  (n:Nat) (hbytes:bytes * n≤140737488355328) (h63:n≤9223372036854775807) (w:World) :
  (Instr.makeSlice t (O U (n:Int)) (O U (n:Int))).run P w=.ok (F (some ⟨w.heap.size,0,none⟩) n n) (w.alloc (.cells (madeCells z.cells (n * size)) e)):=by
 obtain ⟨i,hi,hz,hs,hb⟩:=info_parts hinfo
 have hb' : (i.bytes:Int) * (n:Int)≤281474976710656:=by
  have h:((i.bytes * n:Nat):Int)≤281474976710656:=by rw [hb]; omega
  rwa [Int.natCast_mul] at h
 have hr:=run_make (P:=P) w t e i z ht hi hz .i64 .i64 n n (by omega) (by omega) hb' (by omega)
 simp only [Int.toNat_natCast] at hr
 rw [← hs]
 exact hr
theorem sA {α:Type _} (l:List α) (i:Nat) (a:α):l.toArray.setIfInBounds i a=(l.set i a).toArray:=by simp
theorem s0 {α:Type _} {x y:α} {l:List α}:(x::l).set 0 y=y::l:=List.set_cons_zero
theorem s1 {α:Type _} {x y:α} {l:List α} {n:Nat}:(x::l).set (n+1) y=x::l.set n y:=List.set_cons_succ
theorem bR {p:Prop} {B:Nat} {w:World} (_:p):Below B w w:=Below.refl _ _
theorem cells4 {w:World} {g:Nat} {t:TypeId} {a0 a1 a2 a3:Value} {r:List Value} (h:ai w g t (a0::a1::a2::a3::r)):w.cell? ⟨g,0,none⟩=some a0∧w.cell? ⟨g,1,none⟩=some a1∧w.cell? ⟨g,2,none⟩=some a2∧w.cell? ⟨g,3,none⟩=some a3:=⟨h.cell 0,h.cell 1,h.cell 2,h.cell 3⟩
theorem frz4 {w:World} {g:Nat} {t:TypeId} {cs:List Value} (h:ai w g t cs):w.frozen? ⟨g,0,none⟩=false∧w.frozen? ⟨g,1,none⟩=false∧w.frozen? ⟨g,2,none⟩=false∧w.frozen? ⟨g,3,none⟩=false:=⟨h.frozen 0,h.frozen 1,h.frozen 2,h.frozen 3⟩
theorem cells5 {w:World} {g:Nat} {t:TypeId} {a0 a1 a2 a3 a4:Value} {r:List Value} (h:ai w g t (a0::a1::a2::a3::a4::r)):w.cell? ⟨g,0,none⟩=some a0∧w.cell? ⟨g,1,none⟩=some a1∧w.cell? ⟨g,2,none⟩=some a2∧w.cell? ⟨g,3,none⟩=some a3∧w.cell? ⟨g,4,none⟩=some a4:=⟨h.cell 0,h.cell 1,h.cell 2,h.cell 3,h.cell 4⟩
theorem frz5 {w:World} {g:Nat} {t:TypeId} {cs:List Value} (h:ai w g t cs):w.frozen? ⟨g,0,none⟩=false∧w.frozen? ⟨g,1,none⟩=false∧w.frozen? ⟨g,2,none⟩=false∧w.frozen? ⟨g,3,none⟩=false∧w.frozen? ⟨g,4,none⟩=false:=⟨h.frozen 0,h.frozen 1,h.frozen 2,h.frozen 3,h.frozen 4⟩
theorem cells8 {w:World} {g:Nat} {t:TypeId} {a0 a1 a2 a3 a4 a5 a6 a7:Value} {r:List Value} (h:ai w g t (a0::a1::a2::a3::a4::a5::a6::a7::r)):w.cell? ⟨g,0,none⟩=some a0∧w.cell? ⟨g,1,none⟩=some a1∧w.cell? ⟨g,2,none⟩=some a2∧w.cell? ⟨g,3,none⟩=some a3∧w.cell? ⟨g,4,none⟩=some a4∧w.cell? ⟨g,5,none⟩=some a5∧w.cell? ⟨g,6,none⟩=some a6∧w.cell? ⟨g,7,none⟩=some a7:=⟨h.cell 0,h.cell 1,h.cell 2,h.cell 3,h.cell 4,h.cell 5,h.cell 6,h.cell 7⟩
theorem frz8 {w:World} {g:Nat} {t:TypeId} {cs:List Value} (h:ai w g t cs):w.frozen? ⟨g,0,none⟩=false∧w.frozen? ⟨g,1,none⟩=false∧w.frozen? ⟨g,2,none⟩=false∧w.frozen? ⟨g,3,none⟩=false∧w.frozen? ⟨g,4,none⟩=false∧w.frozen? ⟨g,5,none⟩=false∧w.frozen? ⟨g,6,none⟩=false∧w.frozen? ⟨g,7,none⟩=false:=⟨h.frozen 0,h.frozen 1,h.frozen 2,h.frozen 3,h.frozen 4,h.frozen 5,h.frozen 6,h.frozen 7⟩
def bU (n lo hi:Int):Bool:=decide (lo≤n) && decide (n≤hi)
theorem bK {n lo hi:Int} : bU n lo hi=true ↔ lo≤n∧n≤hi:=by simp [bU]
theorem aD (n lo hi:Int) (w:World):Calls Tryz.prog 134 #[O U n,O U lo,O U hi] w fun e w'=>e=.returned (.bool (bU n lo hi))∧w=w':=by
 go_enter Tryz.func134,Tryz.ntmps134
 go_wp2
 all_goals (go_ret; exact ⟨by simp [bU, *]; try omega,rfl⟩)
theorem aR (n lo hi:Int) (w:World):Calls Tryz.prog 75 #[O U n,O U lo,O U hi] w fun e w'=>e=.returned (.bool (bU n lo hi))∧w=w':=by
 go_enter Tryz.func75,Tryz.ntmps75
 go_wp2
 all_goals (go_ret; exact ⟨by simp [bU, *]; try omega,rfl⟩)
def bY (k:Int) (n:Nat):Int:=if (n:Int)≤k then k - n else -1
theorem qB {k:Int} {a b:Nat} (h:k < a):bY k (a+b) = -1:=by unfold bY; rw [if_neg (by omega)]
theorem pj {k:Int} {a b:Nat} (_h:(a:Int)≤k):bY k (a+b)=bY (k - a) b:=by
 unfold bY
 by_cases h:((a+b:Nat):Int)≤k
 ·rw [if_pos h,if_pos (by omega)]; omega
 ·rw [if_neg h,if_neg (by omega)]
abbrev bi (l:List Int):List Value:=l.map (Value.int .i64)
theorem mJ (l:List Int):(bi l).length=l.length * 1:=by simp
abbrev jg (w:World) (B:Nat) (A:Option Addr) (l:List Int):Prop:=bv w B 1 A l.length (bi l)
theorem jg.ints {w:World} {B:Nat} {A:Option Addr} {l:List Int} (h:jg w B A l) (hne:0 < l.length):∃ b off,A=some ⟨b,off,none⟩∧b < B∧∀ i (hi:i < l.length) (p:an B w),p.val.cell? ⟨b,off+i,none⟩=some (O U l[i]):=by
 obtain ⟨b,off,e,hb,hc⟩:=h.at_ hne
 exact ⟨b,off,e,hb,fun i hi p=>(p.cell hb).trans (hc i _ (by simp [hi]))⟩
def bM (w:World) (B:Nat) (t:TypeId) (k:Nat) (A:Option Addr) (n:Nat) (cs:List Value):Prop :=
 cs.length=n * k∧n≤9223372036854775807∧((A=none∧n=0) ∨ ∃ g rest,A=some ⟨g,0,none⟩∧B≤g∧ai w g t (cs++rest))
theorem bM.of {w:World} {B:Nat} {t:TypeId} {k:Nat} {A:Option Addr} {n c:Nat} {cs:List Value} (h:w.ownsRow B t k (F A n c) n cs):bM w B t k A n cs:=by
 obtain ⟨hl,h | ⟨g,cap,cur,hv,hg,hh,h1,h2,h3,h4⟩⟩:=h
 ·injection h.1 with e1 e2 e3
  exact ⟨hl,by omega,.inl ⟨e1,e2⟩⟩
 ·injection hv with e1 e2 e3
  refine ⟨hl,by unfold maxLen at h2; omega,.inr ⟨g,cur.toList.drop (n * k),e1,hg, ?_⟩⟩
  have:cs++cur.toList.drop (n * k)=cur.toList:=by rw [← h4]; exact List.take_append_drop _ _
  rw [this]
  exact ai.of hh
theorem bM.reads {w:World} {B:Nat} {t:TypeId} {k:Nat} {A:Option Addr} {n:Nat} {cs:List Value} (h:bM w B t k A n cs):bv w w.heap.size k A n cs:=by
 obtain ⟨hl,hn,⟨_,h0⟩ | ⟨g,rest,hA,hg,hh⟩⟩:=h
 ·exact ⟨hl,hn,fun h=>by omega⟩
 ·exact ⟨hl,hn,fun _=>⟨g,0,hA,hh.lt,fun j u hu=>by
   rw [Nat.zero_add,hh.cell,List.getElem?_append_left (List.getElem?_eq_some_iff.1 hu).1]; exact hu⟩⟩
theorem bM.kept {w w' : World} {B:Nat} {t:TypeId} {k:Nat} {A:Option Addr} {n:Nat} {cs:List Value} (h:bM w B t k A n cs) {g:Nat} (hg:w.grownBy w' (some g)) (hlt:g < B):bM w' B t k A n cs:=by
 obtain ⟨hl,hn,h0 | ⟨g',rest,hA,hg',hh⟩⟩:=h
 ·exact ⟨hl,hn,.inl h0⟩
 ·exact ⟨hl,hn,.inr ⟨g',rest,hA,hg',hh.kept hg (by intro e; injection e with e; omega)⟩⟩
theorem bM.then {w w' : World} {B:Nat} {t:TypeId} {k:Nat} {A:Option Addr} {n:Nat} {cs:List Value} (h:bM w B t k A n cs) (hb:Below w.heap.size w w'):bM w' B t k A n cs:=by
 obtain ⟨hl,hn,h0 | ⟨g',rest,hA,hg',hh⟩⟩:=h
 ·exact ⟨hl,hn,.inl h0⟩
 ·exact ⟨hl,hn,.inr ⟨g',rest,hA,hg',hh.below hb hh.lt⟩⟩
def ramp:Int→Nat→List Int
 | _,0=>[]
 | k,n+1=>k :: ramp (k+1) n
theorem fN:∀ (k:Int) (n:Nat),(ramp k n).length=n
 | _,0=>rfl
 | k,n+1=>by simp [ramp,fN (k+1) n]
theorem qe:∀ (k:Int) (n i:Nat) (h:i < (ramp k n).length),(ramp k n)[i]=k+i
 | k,n+1,0,_=>by simp [ramp]
 | k,n+1,i+1,h=>by
  simp only [ramp,List.getElem_cons_succ]
  rw [qe (k+1) n i (by simpa [ramp] using h)]
  omega
theorem kc:∀ (k:Int) (n:Nat),ramp k (n+1)=ramp k n++[k+n]
 | k,0=>by simp [ramp]
 | k,n+1=>by
  rw [ramp,kc (k+1) n,ramp,List.cons_append]
  congr 3
  omega
theorem ib {a w:World} {row:Option Nat} (h:a.grownBy w row) (p:Addr) (hlt:p.block < a.heap.size) (hne:some p.block ≠ row):w.cell? p=a.cell? p:=World.cell?_of_block (w:=a) (h.block p.block hlt hne)
theorem bM.at_ge {w:World} {B:Nat} {t:TypeId} {k:Nat} {A:Option Addr} {n:Nat} {cs:List Value} (h:bM w B t k A n cs) (g:Nat) (hg:A.map (·.block)=some g):B≤g:=by
 obtain ⟨_,_,⟨rfl,_⟩ | ⟨g',_,rfl,hB,_⟩⟩:=h
 ·cases hg
 ·injection hg with e; simp only at e; omega
theorem bM.held {w:World} {B:Nat} {t:TypeId} {A:Option Addr} {k0:Int} {n:Nat} (h:bM w B t 1 A n (bi (ramp k0 n))):jg w w.heap.size A (Go.Proofs.YtoeoimhemojdeaaGreatDoor.ramp k0 n):=by
 have:=h.reads
 unfold jg; rw [fN]; exact this
theorem ab {a w:World} {g i:Nat} {u:Value} (h:a.grownBy w (some g)):a.grownBy (w.setCell ⟨g,i,none⟩ u) (some g) :=
 ⟨h.os,h.tape,h.output,by simpa [World.setCell] using h.size,fun k hk hne=>(Below.heap_setCell w ⟨g,i,none⟩ u k (fun e=>hne (by rw [e]))).trans (h.block k hk hne)⟩
structure mK (lo hi:Nat) (w w' : World):Prop where
 os:w'.os=w.os
 tape:w'.tape=w.tape
 output:w'.output=w.output
 size:w.heap.size≤w'.heap.size
 block:∀ k,k < w.heap.size→(k < lo ∨ hi≤k)→w'.heap[k]?=w.heap[k]?
theorem mK.refl (lo hi:Nat) (w:World):mK lo hi w w:=⟨rfl,rfl,rfl,Nat.le_refl _,fun _ _ _=>rfl⟩
theorem mK.trans {lo hi:Nat} {a b c:World} (h:mK lo hi a b) (k:mK lo hi b c):mK lo hi a c :=
 ⟨k.os.trans h.os,k.tape.trans h.tape,k.output.trans h.output,Nat.le_trans h.size k.size,fun i hi ho=>(k.block i (Nat.lt_of_lt_of_le hi h.size) ho).trans (h.block i hi ho)⟩
theorem mK.of {lo hi:Nat} {a b:World} {row:Option Nat} (h:a.grownBy b row) (hr:∀ g,row=some g→lo≤g∧g < hi):mK lo hi a b :=
 ⟨h.os,h.tape,h.output,h.size,fun k hk ho=>h.block k hk (fun e=>by have:=hr k e.symm; omega)⟩
theorem mK.below {lo hi:Nat} {a b:World} (h:mK lo hi a b) (hlo:lo≤a.heap.size):Below lo a b :=
 ⟨h.os,h.tape,h.output,h.size,fun k hk=>h.block k (by omega) (.inl hk)⟩
theorem mK.lies {lo hi:Nat} {a b:World} (h:mK lo hi a b) {g:Nat} {t:TypeId} {cs:List Value} (hL:ai a g t cs) (ho:g < lo ∨ hi≤g):ai b g t cs:=(h.block g hL.lt ho).trans hL
theorem mK.own {lo hi:Nat} {a b:World} (h:mK lo hi a b) {B:Nat} {t:TypeId} {k:Nat} {A:Option Addr} {n:Nat} {cs:List Value} (hO:bM a B t k A n cs) (hB:hi≤B):bM b B t k A n cs:=by
 obtain ⟨hl,hn,h0 | ⟨g',rest,hA,hg',hh⟩⟩:=hO
 ·exact ⟨hl,hn,.inl h0⟩
 ·exact ⟨hl,hn,.inr ⟨g',rest,hA,hg',h.lies hh (.inr (by omega))⟩⟩
theorem gG {α:Type} {a r:List α} {n:Nat} (h:a.length=n) (i:Nat):(a++r)[n+i]?=r[i]?:=by
 rw [List.getElem?_append_right (by omega),h,Nat.add_sub_cancel_left]
theorem fO {α:Type} {a r:List α} {n:Nat} (h:a.length=n) (i:Nat) (u:α):(a++r).set (n+i) u=a++r.set i u:=by
 subst h; rw [List.set_append_right _ _ (by omega),Nat.add_sub_cancel_left]
theorem sa {α:Type} {l:List α} (h:2≤l.length):∃ a0 a1 r,l=a0 :: a1 :: r:=by
 match l,h with
 | a0 :: a1 :: r,_=>exact ⟨a0,a1,r,rfl⟩
theorem sc {α:Type} {l:List α} (h:3≤l.length):∃ a0 a1 a2 r,l=a0 :: a1 :: a2 :: r:=by
 match l,h with
 | a0 :: a1 :: a2 :: r,_=>exact ⟨a0,a1,a2,r,rfl⟩
theorem kF {k0:Int} {n i:Nat} (h:i < n):(bi (ramp k0 n))[i]?=some (O U (k0+i)):=by
 unfold bi
 rw [List.getElem?_map,List.getElem?_eq_getElem (by rw [fN]; exact h),qe]; rfl
def bf {α:Type} (f:α→Bool):Nat→List α→Int
 | _,[]=>-1
 | k,x :: l=>if f x then k else bf f (k+1) l
theorem kG {α:Type} (f:α→Bool):∀ (l:List α) (k:Nat),decide (0≤bf f k l)=l.any f
 | [],_=>rfl
 | x :: l,k=>by
  rw [bf,List.any_cons,← kG f l (k+1)]
  cases f x <;> simp
theorem qf {α:Type} {f:α→Bool} {l:List α} {k:Nat} (h:k < l.length) (hf:f l[k]=true):bf f k (l.drop k)=k:=by
 rw [List.drop_eq_getElem_cons h,bf,hf]; rfl
theorem rG {α:Type} {f:α→Bool} {l:List α} {k:Nat} (h:k < l.length) (hf:f l[k]=false):bf f k (l.drop k)=bf f (k+1) (l.drop (k+1)):=by
 rw [List.drop_eq_getElem_cons h,bf,hf]; rfl
structure ao where
 k:Int
 c:Int
 deriving DecidableEq,Inhabited
def ao.enc (r:ao):List Value:=[O U r.k,O U r.c]
abbrev ao.val (r:ao):Value:=.agg #[O U r.k,O U r.c]
theorem ao.enc_len (r:ao):r.enc.length=2:=rfl
theorem ao.of_ints_enc (ns:List Int) (h:ns.length=2):∃ r:ao,ns.map (Value.int .i64)=r.enc:=by
 match ns,h with
 | [v0,v1],_=>exact ⟨⟨v0,v1⟩,rfl⟩
structure kH (B:Nat) (w:World) (b o:Nat) (r:ao):Prop where
 c0:∀ p:an B w,p.val.cell? ⟨b,o,none⟩=some (O U r.k)
 c1:∀ p:an B w,p.val.cell? ⟨b,o+1,none⟩=some (O U r.c)
theorem kH.up {B B' : Nat} {w W:World} {b o:Nat} {r:ao} (h:kH B w b o r) (hb:Below B w W) (hB:B≤B'):kH B' W b o r :=
 ⟨fun p=>h.c0 ⟨p.val,hb.trans (p.below.mono hB)⟩,fun p=>h.c1 ⟨p.val,hb.trans (p.below.mono hB)⟩⟩
theorem kH.of {W:World} {g:Nat} {t:TypeId} {r:ao} (h:ai W g t r.enc):kH W.heap.size W g 0 r :=
 ⟨fun p=>(p.cell h.lt).trans (h.cell 0),fun p=>(p.cell h.lt).trans (h.cell 1)⟩
abbrev eK (w:World) (B:Nat) (A:Option Addr) (l:List ao):Prop:=bv w B 2 A l.length (l.flatMap ao.enc)
theorem eK.el {w:World} {B:Nat} {A:Option Addr} {l:List ao} (h:eK w B A l) (hne:0 < l.length):∃ b off,A=some ⟨b,off,none⟩∧b < B∧∀ i (hi:i < l.length),kH B w b (off+i * 2) l[i]:=by
 obtain ⟨b,off,e,hb,hc⟩:=h.at_ hne
 refine ⟨b,off,e,hb,fun i hi=>?_⟩
 have key:∀ j,j < 2→∀ u,(l[i].enc)[j]?=some u→∀ p:an B w,p.val.cell? ⟨b,off+i * 2+j,none⟩=some u:=fun j hj u hu p=>by
  rw [p.cell hb,Nat.add_assoc]
  exact hc _ u (by rw [iT ao.enc 2 ao.enc_len l i hi j hj]; exact hu)
 exact ⟨key 0 (by omega) _ rfl,key 1 (by omega) _ rfl⟩
theorem pk {W:World} {g:Nat} {t:TypeId} {l:List ao} (h:ai W g t (l.flatMap ao.enc)) (hn:l.length≤9223372036854775807):eK W W.heap.size (some ⟨g,0,none⟩) l :=
 ai.reads h (fq ao.enc 2 ao.enc_len l) hn
theorem dh:(Tryz.prog.info? 104).map (fun i=>(i.zero,i.size,i.bytes))=some (some (.agg #[O U 0,O U 0]),2,16):=by kernel_rfl
theorem pl (r:ao) (w:World):Calls Tryz.prog 145 #[r.val] w fun e w'=>e=.returned r.val∧Below w.heap.size w w':=by
 go_enter Tryz.func145,Tryz.ntmps145
 go_wp2
 refine bodyPost_ret (v:=r.val) (by simp [results,Tryz.results145,go_sem]) rfl ⟨rfl, ?_⟩
 go_grown
theorem pm (r r' : ao) (w:World):Calls Tryz.prog 159 #[r.val,r'.val] w fun e w'=>e=.returned (.bool (decide (r=r')))∧Below w.heap.size w w':=by
 obtain ⟨v0,v1⟩:=r
 obtain ⟨u0,u1⟩:=r'
 go_enter Tryz.func159,Tryz.ntmps159
 go_wp2
 all_goals (go_ret; refine ⟨by simp_all, ?_⟩; go_grown)
theorem nW (A:Option Addr) (n c:Nat) (k:Int) (w:World) (hn:n≤9223372036854775807) (_hk:0≤k) (_hk' : k≤1048576) :
  Calls Tryz.prog 79 #[F A n c,O U k] w fun e w'=>e=.returned (O U (bY k n))∧w=w':=by
 go_enter Tryz.func79,Tryz.ntmps79
 go_wp2
 all_goals (go_ret; refine ⟨?_,rfl⟩; unfold bY; first | (rw [if_neg (by omega)]; rfl) | (rw [if_pos (by omega)]; rfl))
set_option maxHeartbeats 1000000 in
theorem nX (A:Option Addr) (c:Nat) (l:List ao) (w:World) (h:eK w w.heap.size A l) (hn:l.length≤1048576) :
  Calls Tryz.prog 91 #[F A l.length c] w fun e w'=>∃ g,e=.returned (F (some ⟨g,0,none⟩) l.length l.length)∧w.heap.size≤g∧ai w' g 104 (l.flatMap ao.enc)∧Below w.heap.size w w':=by
 have hmk:=fun W=>jF (P:=Tryz.prog) 37 104 _ 2 16 Tryz.underlying37 dh l.length (by omega) (by omega) W
 have hrd:=h.el
 go_enter Tryz.func91,Tryz.ntmps91
 go_wp2
 go_loopw [4] (fun i wr=>∃ (k:Nat) (rest:List Value),k≤l.length∧i=O U k∧Below w.heap.size w wr∧ai wr w.heap.size 104 ((l.take k).flatMap ao.enc++rest)∧rest.length=(l.length - k) * 2) (fun i _=>l.length - (intOf i).toNat)
 case atStart =>
  refine ⟨0,_,Nat.zero_le _,rfl,(Below.refl _ _).alloc (Nat.le_refl _) _,by simpa using ai.new w _ _,by simp [size_madeCells]⟩
 case round =>
  obtain ⟨k,rest,hk,rfl,hbel,hl,hlen⟩:=hrel
  by_cases hlt:k < l.length
  ·obtain ⟨b,off,rfl,hb,hcell⟩:=hrd (by omega)
   have HL:=Lib.hid hl; clear hl
   have HN:=Lib.hid hlen; clear hlen
   obtain ⟨x,hxe⟩ : ∃ x,x=l[k]:=⟨_,rfl⟩
   obtain ⟨c0,c1⟩:=hcell k hlt
   obtain ⟨q,rfl⟩ : ∃ q:an w.heap.size w,wr=q.val:=⟨⟨wr,hbel⟩,rfl⟩
   rw [← hxe] at c0 c1
   have HX:=Lib.hid hxe; clear hxe
   clear hcell hrd hbel
   go_wp2_with (first
    | (go_at_call 145; refine (pl x _).mono ?_; rintro e w1 ⟨rfl,hb1⟩)
    | (with_reducible refine gm (op:=⟨none,.store 104 (.tmp 21) (.tmp 20),_,_,_,_⟩) rfl _ _ _ rfl ao.enc 2 ao.enc_len l k hlt rest HN w.heap.size 104 x.enc.toArray ?c1 ?c2 ?c3 ?c4 ?c5 ?c6 ?_; rotate_right; intro w2 old2 hl2 hn2 hg2))
   case c1=>rfl
   case c2=>rfl
   case c3=>rw [HX.out]; rfl
   case c4=>kernel_rfl
   case c5=>simp [ao.enc,Value.oneCell']
   case c6=>exact HL.out.below hb1 HL.out.lt
   go_wp2
   go_roundw
   case rel=>exact ⟨k+1,old2,by omega,by go_num,(q.below.trans (hb1.mono q.size)).grown hg2 (Nat.le_trans q.size hb1.size) (by rintro _ ⟨⟩; exact Nat.le_refl _),hl2,hn2⟩
   case measure=>simp [intOf]; omega
  ·have hk' : k=l.length:=by omega
   subst hk'
   go_wp2
   go_ret
   refine ⟨w.heap.size,rfl,Nat.le_refl _, ?_,hbel⟩
   have h0:rest = []:=List.eq_nil_of_length_eq_zero (by omega)
   rw [h0,List.take_of_length_le (Nat.le_refl _),List.append_nil] at hl
   exact hl
def cR (a b:List ao):Bool:=decide (a=b)
def cn:List ao→List ao→Bool
 | [],[]=>true
 | x :: a,y :: b=>decide (x=y) && cn a b
 | _,_=>false
theorem iw:∀ a b:List ao,cn a b=cR a b
 | [],[]=>by simp [cn,cR]
 | [],_ :: _=>by simp [cn,cR]
 | _ :: _,[]=>by simp [cn,cR]
 | x :: a,y :: b=>by simp [cn,cR,iw a b,Bool.decide_and]
set_option maxHeartbeats 1000000 in
theorem nY (A B:Option Addr) (c d:Nat) (l m:List ao) (w:World) (hA:eK w w.heap.size A l) (hB:eK w w.heap.size B m) :
  Calls Tryz.prog 101 #[F A l.length c,F B m.length d] w fun e w'=>e=.returned (.bool (cR l m))∧Below w.heap.size w w':=by
 have hlA:=hA.big
 have hlB:=hB.big
 have hrA:=hA.el
 have hrB:=hB.el
 by_cases hne:l.length=m.length
 ·have hF:Hid (cn l m=cR l m):=iw l m
  have hbn:((l.length:Int) != (m.length:Int))=false:=by simp [hne]
  have HE:=Lib.hid hne; clear hne
  go_enter Tryz.func101,Tryz.ntmps101
  go_wp2
  go_loopw [5] (fun i wr=>∃ k:Nat,k≤l.length∧i=O U k∧(∃ q:an w.heap.size w,wr=q.val)∧Hid (cn (l.drop k) (m.drop k)=cR l m)) (fun i _=>l.length - (intOf i).toNat)
  case atStart=>exact ⟨0,Nat.zero_le _,rfl,⟨an.start _ _,rfl⟩,hF⟩
  case round =>
   obtain ⟨k,hk,rfl,⟨q,rfl⟩,HR⟩:=hrel
   by_cases hlt:k < l.length
   ·have hlt' : k < m.length:=by have:=HE.out; omega
    obtain ⟨b,off,rfl,hb,hcell⟩:=hrA (by omega)
    obtain ⟨b',off',rfl,hb',hcell'⟩:=hrB (by omega)
    obtain ⟨c0,c1⟩:=hcell k hlt
    obtain ⟨d0,d1⟩:=hcell' k hlt'
    obtain ⟨x,hxe⟩ : ∃ x,x=l[k]:=⟨_,rfl⟩
    obtain ⟨y,hye⟩ : ∃ x,x=m[k]:=⟨_,rfl⟩
    rw [← hxe] at c0 c1
    rw [← hye] at d0 d1
    have HX:=Lib.hid hxe; clear hxe
    have HY:=Lib.hid hye; clear hye
    clear hcell hcell' hrA hrB
    have hstep:Hid (cn (l.drop k) (m.drop k)=(decide (x=y) && cn (l.drop (k+1)) (m.drop (k+1)))):=by
     rw [List.drop_eq_getElem_cons hlt,List.drop_eq_getElem_cons hlt',HX.out,HY.out]; rfl
    obtain ⟨v,hv⟩ : ∃ v,decide (x=y)=v:=⟨_,rfl⟩
    have HV:=Lib.hid hv; clear hv
    cases v
    all_goals
     go_wp2
     refine bp _ (by kernel_rfl) (by kernel_rfl) ?_
     repeat (any_goals (first | go_big_quiet_step ((go_at_call 159; refine jE HV (Nat.le_refl _) (pm x y _))) | (refine wpQuiet_step (fun K hK=>?_); go_simp; split <;> (refine hK _ ?_; clear hK K))))
     all_goals (refine wpQuiet_nil ?_; rintro _ ⟨q1,rfl⟩)
     all_goals go_wp2
    ·go_ret
     refine ⟨?_,q1.below⟩
     rw [← HR.out,hstep.out,HV.out]; rfl
    ·go_roundw
     case rel=>exact ⟨k+1,by omega,by go_num,⟨q1,rfl⟩,by have h1:=HR.out; rw [hstep.out,HV.out] at h1; exact h1⟩
     case measure=>simp [intOf]; omega
   ·have hk' : k=l.length:=by omega
    go_wp2
    go_ret
    refine ⟨?_,q.below⟩
    rw [← HR.out,List.drop_eq_nil_of_le (by omega),List.drop_eq_nil_of_le (by have:=HE.out; omega)]; rfl
 ·have hbn:((l.length:Int) != (m.length:Int))=true:=by rw [bne_iff_ne]; omega
  have hF:Hid (cR l m=false):=by
   unfold cR; rw [decide_eq_false_iff_not]; intro h; exact hne (by rw [h])
  go_enter Tryz.func101,Tryz.ntmps101
  go_wp2
  go_ret
  exact ⟨by rw [hF.out]; rfl,Below.refl _ _⟩
set_option maxHeartbeats 1000000 in
theorem fj (A:Option Addr) (c n B:Nat) (k0:Int) (cs:List Value) (w:World) (hk : -1000000000≤k0) (hk' : k0≤1000000000) (hn:n≤100000000) (h:bM w B 104 2 A n cs) :
  Calls Tryz.prog 103 #[F A n c,O U k0] w fun e w'=>e=.returned (O U (k0+2 * n))∧bM w' B 104 2 A n (bi (ramp k0 (n * 2)))∧w.grownBy w' (A.map (·.block)):=by
 obtain ⟨hl,hn',h0 | ⟨g,rest,rfl,hg,hh⟩⟩:=h
 ·obtain ⟨rfl,rfl⟩:=h0
  go_enter Tryz.func103,Tryz.ntmps103
  go_wp2
  refine wp_loop_rounds 1 ?_
  rw [rounds_succ]
  go_wp2
  go_ret
  exact ⟨by simp,⟨by simp [ramp],by omega,.inl ⟨rfl,rfl⟩⟩,World.grownBy.refl w _⟩
 ·have HF:Hid (ai w g 104 (bi (ramp k0 (0 * 2))++(cs++rest))∧n * 2≤(cs++rest).length):=⟨by simpa [ramp] using hh,by simp; omega⟩
  clear hh hl
  go_enter Tryz.func103,Tryz.ntmps103
  go_wp2
  go_loopw [1,5] (fun kk i wr=>∃ (j:Nat) (more:List Value),j≤n∧i=O U j∧kk=O U (k0+2 * j)∧Hid (ai wr g 104 (bi (ramp k0 (j * 2))++more)∧n * 2≤j * 2+more.length)∧w.grownBy wr (some g)) (fun _ i _=>n - (intOf i).toNat)
  case atStart=>exact ⟨0,cs++rest,Nat.zero_le _,rfl,congrArg _ (by simp),⟨HF.out.1,by have:=HF.out.2; omega⟩,World.grownBy.refl w _⟩
  case round =>
   obtain ⟨j,more,hj,rfl,rfl,HR,hgr⟩:=hrel
   by_cases hlt:j < n
   ·obtain ⟨u0,u1,more',rfl⟩ : ∃ u0 u1 more',more=u0 :: u1 :: more':=by
     have h2:=HR.out.2
     have hle:2≤more.length:=by omega
     clear HR HF
     exact sa hle
    have HE:Hid ((bi (ramp k0 (j * 2))).length=j * 2):=by unfold Hid bi; rw [List.length_map,fN]
    have c0:wr.cell? ⟨g,j * 2,none⟩=some u0:=(HR.out.1.cell _).trans (gG HE.out 0)
    have f0:wr.frozen? ⟨g,j * 2,none⟩=false:=HR.out.1.frozen _
    have c1:wr.cell? ⟨g,j * 2+1,none⟩=some u1:=(HR.out.1.cell _).trans (gG HE.out 1)
    have f1:wr.frozen? ⟨g,j * 2+1,none⟩=false:=HR.out.1.frozen _
    go_wp2
    go_roundw
    case rel =>
     refine ⟨j+1,more',by omega,by go_num,congrArg _ (by omega),⟨?_,by have:=HR.out.2; simp only [List.length_cons] at this; omega⟩,ab (ab (hgr))⟩
     have h1:=HR.out.1
     have h1:=h1.set (j * 2) (O U (k0+2 * (j:Int)))
     have e0:=fun r u=>fO (r:=r) HE.out 0 (u:Value)
     rw [Nat.add_zero] at e0
     rw [e0] at h1
     have h1:=h1.set (j * 2+1) (O U (k0+2 * (j:Int)+1))
     rw [fO HE.out 1] at h1
     have e:ramp k0 ((j+1) * 2)=ramp k0 (j * 2)++[k0+2 * (j:Int),k0+2 * (j:Int)+1]:=by
      rw [show (j+1) * 2=j * 2+2 by omega]
      simp only [kc,List.append_assoc,List.cons_append,List.nil_append]
      simp
      omega
     rw [e]
     unfold bi at h1 ⊢
     rw [List.map_append,List.append_assoc]
     exact h1
    case measure=>simp [intOf]; omega
   ·have HJ:Hid (j=n):=by unfold Hid; omega
    go_wp2
    go_ret
    refine ⟨by rw [← HJ.out]; rfl,⟨by rw [mJ,fN,Nat.mul_one],hn',.inr ⟨g,more,rfl,hg,by rw [← HJ.out]; exact HR.out.1⟩⟩,hgr⟩
set_option maxHeartbeats 1000000 in
theorem jh (A:Option Addr) (c n:Nat) (k0:Int) (w:World) (hk : -1000000000≤k0) (hk' : k0≤1000000000) (hn:n≤100000000) (h:bv w w.heap.size 2 A n (bi (ramp k0 (n * 2)))) :
  Calls Tryz.prog 105 #[F A n c,O U k0] w fun e w'=>e=.returned (O U (k0+2 * n))∧Below w.heap.size w w':=by
 have hrd:=h.at_
 go_enter Tryz.func105,Tryz.ntmps105
 go_wp2
 go_loopw [1,5] (fun kk i wr=>∃ j:Nat,j≤n∧i=O U j∧kk=O U (k0+2 * j)∧Below w.heap.size w wr) (fun _ i _=>n - (intOf i).toNat)
 case atStart=>exact ⟨0,Nat.zero_le _,rfl,congrArg _ (by simp),Below.refl _ _⟩
 case round =>
  obtain ⟨j,hj,rfl,rfl,hbr⟩:=hrel
  by_cases hlt:j < n
  ·obtain ⟨b,off,rfl,hb,hcell⟩:=hrd (by omega)
   obtain ⟨q,rfl⟩ : ∃ q:an w.heap.size w,wr=q.val:=⟨⟨wr,hbr⟩,rfl⟩
   have key:∀ (i:Nat),i < 2→∀ p:an w.heap.size w,p.val.cell? ⟨b,off+j * 2+i,none⟩=some (O U (k0+2 * (j:Int)+i)):=fun i hi p=>by
    rw [p.cell hb,Nat.add_assoc,hcell (j * 2+i) _ (kF (by omega))]
    congr 2
    omega
   have c0:∀ p:an w.heap.size w,p.val.cell? ⟨b,off+j * 2,none⟩=some (O U (k0+2 * (j:Int))):=fun p=>by
    have:=key 0 (by omega) p
    simpa using this
   have c1:∀ p:an w.heap.size w,p.val.cell? ⟨b,off+j * 2+1,none⟩=some (O U (k0+2 * (j:Int)+1)):=fun p=>by
    have:=key 1 (by omega) p
    rw [this]; congr 2 <;> omega
   clear key hcell hrd
   go_wp2
   go_roundw
   case rel=>exact ⟨j+1,by omega,by go_num,congrArg _ (by omega),q.below⟩
   case measure=>simp [intOf]; omega
  ·have HJ:Hid (j=n):=by unfold Hid; omega
   clear hrd
   go_wp2
   go_ret
   exact ⟨by rw [← HJ.out]; rfl,hbr⟩
structure ae where
 k:Int
 p:Int
 c:Int
 deriving DecidableEq,Inhabited
def ae.enc (r:ae):List Value:=[O U r.k,O U r.p,O U r.c]
abbrev ae.val (r:ae):Value:=.agg #[O U r.k,O U r.p,O U r.c]
theorem ae.enc_len (r:ae):r.enc.length=3:=rfl
theorem ae.of_ints_enc (ns:List Int) (h:ns.length=3):∃ r:ae,ns.map (Value.int .i64)=r.enc:=by
 match ns,h with
 | [v0,v1,v2],_=>exact ⟨⟨v0,v1,v2⟩,rfl⟩
structure eL (B:Nat) (w:World) (b o:Nat) (r:ae):Prop where
 c0:∀ p:an B w,p.val.cell? ⟨b,o,none⟩=some (O U r.k)
 c1:∀ p:an B w,p.val.cell? ⟨b,o+1,none⟩=some (O U r.p)
 c2:∀ p:an B w,p.val.cell? ⟨b,o+2,none⟩=some (O U r.c)
theorem eL.up {B B' : Nat} {w W:World} {b o:Nat} {r:ae} (h:eL B w b o r) (hb:Below B w W) (hB:B≤B'):eL B' W b o r :=
 ⟨fun p=>h.c0 ⟨p.val,hb.trans (p.below.mono hB)⟩,fun p=>h.c1 ⟨p.val,hb.trans (p.below.mono hB)⟩,fun p=>h.c2 ⟨p.val,hb.trans (p.below.mono hB)⟩⟩
theorem eL.of {W:World} {g:Nat} {t:TypeId} {r:ae} (h:ai W g t r.enc):eL W.heap.size W g 0 r :=
 ⟨fun p=>(p.cell h.lt).trans (h.cell 0),fun p=>(p.cell h.lt).trans (h.cell 1),fun p=>(p.cell h.lt).trans (h.cell 2)⟩
abbrev dC (w:World) (B:Nat) (A:Option Addr) (l:List ae):Prop:=bv w B 3 A l.length (l.flatMap ae.enc)
theorem dC.el {w:World} {B:Nat} {A:Option Addr} {l:List ae} (h:dC w B A l) (hne:0 < l.length):∃ b off,A=some ⟨b,off,none⟩∧b < B∧∀ i (hi:i < l.length),eL B w b (off+i * 3) l[i]:=by
 obtain ⟨b,off,e,hb,hc⟩:=h.at_ hne
 refine ⟨b,off,e,hb,fun i hi=>?_⟩
 have key:∀ j,j < 3→∀ u,(l[i].enc)[j]?=some u→∀ p:an B w,p.val.cell? ⟨b,off+i * 3+j,none⟩=some u:=fun j hj u hu p=>by
  rw [p.cell hb,Nat.add_assoc]
  exact hc _ u (by rw [iT ae.enc 3 ae.enc_len l i hi j hj]; exact hu)
 exact ⟨key 0 (by omega) _ rfl,key 1 (by omega) _ rfl,key 2 (by omega) _ rfl⟩
theorem m8 {W:World} {g:Nat} {t:TypeId} {l:List ae} (h:ai W g t (l.flatMap ae.enc)) (hn:l.length≤9223372036854775807):dC W W.heap.size (some ⟨g,0,none⟩) l :=
 ai.reads h (fq ae.enc 3 ae.enc_len l) hn
theorem dz:(Tryz.prog.info? 147).map (fun i=>(i.zero,i.size,i.bytes))=some (some (.agg #[O U 0,O U 0,O U 0]),3,24):=by kernel_rfl
theorem m9 (r:ae) (w:World):Calls Tryz.prog 146 #[r.val] w fun e w'=>e=.returned r.val∧Below w.heap.size w w':=by
 go_enter Tryz.func146,Tryz.ntmps146
 go_wp2
 refine bodyPost_ret (v:=r.val) (by simp [results,Tryz.results146,go_sem]) rfl ⟨rfl, ?_⟩
 go_grown
theorem na (r r' : ae) (w:World):Calls Tryz.prog 160 #[r.val,r'.val] w fun e w'=>e=.returned (.bool (decide (r=r')))∧Below w.heap.size w w':=by
 obtain ⟨v0,v1,v2⟩:=r
 obtain ⟨u0,u1,u2⟩:=r'
 go_enter Tryz.func160,Tryz.ntmps160
 go_wp2
 all_goals (go_ret; refine ⟨by simp_all, ?_⟩; go_grown)
theorem mn (A:Option Addr) (n c:Nat) (k:Int) (w:World) (hn:n≤9223372036854775807) (_hk:0≤k) (_hk' : k≤1048576) :
  Calls Tryz.prog 80 #[F A n c,O U k] w fun e w'=>e=.returned (O U (bY k n))∧w=w':=by
 go_enter Tryz.func80,Tryz.ntmps80
 go_wp2
 all_goals (go_ret; refine ⟨?_,rfl⟩; unfold bY; first | (rw [if_neg (by omega)]; rfl) | (rw [if_pos (by omega)]; rfl))
set_option maxHeartbeats 1000000 in
theorem mo (A:Option Addr) (c:Nat) (l:List ae) (w:World) (h:dC w w.heap.size A l) (hn:l.length≤1048576) :
  Calls Tryz.prog 92 #[F A l.length c] w fun e w'=>∃ g,e=.returned (F (some ⟨g,0,none⟩) l.length l.length)∧w.heap.size≤g∧ai w' g 147 (l.flatMap ae.enc)∧Below w.heap.size w w':=by
 have hmk:=fun W=>jF (P:=Tryz.prog) 38 147 _ 3 24 Tryz.underlying38 dz l.length (by omega) (by omega) W
 have hrd:=h.el
 go_enter Tryz.func92,Tryz.ntmps92
 go_wp2
 go_loopw [4] (fun i wr=>∃ (k:Nat) (rest:List Value),k≤l.length∧i=O U k∧Below w.heap.size w wr∧ai wr w.heap.size 147 ((l.take k).flatMap ae.enc++rest)∧rest.length=(l.length - k) * 3) (fun i _=>l.length - (intOf i).toNat)
 case atStart =>
  refine ⟨0,_,Nat.zero_le _,rfl,(Below.refl _ _).alloc (Nat.le_refl _) _,by simpa using ai.new w _ _,by simp [size_madeCells]⟩
 case round =>
  obtain ⟨k,rest,hk,rfl,hbel,hl,hlen⟩:=hrel
  by_cases hlt:k < l.length
  ·obtain ⟨b,off,rfl,hb,hcell⟩:=hrd (by omega)
   have HL:=Lib.hid hl; clear hl
   have HN:=Lib.hid hlen; clear hlen
   obtain ⟨x,hxe⟩ : ∃ x,x=l[k]:=⟨_,rfl⟩
   obtain ⟨c0,c1,c2⟩:=hcell k hlt
   obtain ⟨q,rfl⟩ : ∃ q:an w.heap.size w,wr=q.val:=⟨⟨wr,hbel⟩,rfl⟩
   rw [← hxe] at c0 c1 c2
   have HX:=Lib.hid hxe; clear hxe
   clear hcell hrd hbel
   go_wp2_with (first
    | (go_at_call 146; refine (m9 x _).mono ?_; rintro e w1 ⟨rfl,hb1⟩)
    | (with_reducible refine gm (op:=⟨none,.store 147 (.tmp 21) (.tmp 20),_,_,_,_⟩) rfl _ _ _ rfl ae.enc 3 ae.enc_len l k hlt rest HN w.heap.size 147 x.enc.toArray ?c1 ?c2 ?c3 ?c4 ?c5 ?c6 ?_; rotate_right; intro w2 old2 hl2 hn2 hg2))
   case c1=>rfl
   case c2=>rfl
   case c3=>rw [HX.out]; rfl
   case c4=>kernel_rfl
   case c5=>simp [ae.enc,Value.oneCell']
   case c6=>exact HL.out.below hb1 HL.out.lt
   go_wp2
   go_roundw
   case rel=>exact ⟨k+1,old2,by omega,by go_num,(q.below.trans (hb1.mono q.size)).grown hg2 (Nat.le_trans q.size hb1.size) (by rintro _ ⟨⟩; exact Nat.le_refl _),hl2,hn2⟩
   case measure=>simp [intOf]; omega
  ·have hk' : k=l.length:=by omega
   subst hk'
   go_wp2
   go_ret
   refine ⟨w.heap.size,rfl,Nat.le_refl _, ?_,hbel⟩
   have h0:rest = []:=List.eq_nil_of_length_eq_zero (by omega)
   rw [h0,List.take_of_length_le (Nat.le_refl _),List.append_nil] at hl
   exact hl
def bV (a b:List ae):Bool:=decide (a=b)
def bO:List ae→List ae→Bool
 | [],[]=>true
 | x :: a,y :: b=>decide (x=y) && bO a b
 | _,_=>false
theorem gn:∀ a b:List ae,bO a b=bV a b
 | [],[]=>by simp [bO,bV]
 | [],_ :: _=>by simp [bO,bV]
 | _ :: _,[]=>by simp [bO,bV]
 | x :: a,y :: b=>by simp [bO,bV,gn a b,Bool.decide_and]
set_option maxHeartbeats 1000000 in
theorem mp (A B:Option Addr) (c d:Nat) (l m:List ae) (w:World) (hA:dC w w.heap.size A l) (hB:dC w w.heap.size B m) :
  Calls Tryz.prog 102 #[F A l.length c,F B m.length d] w fun e w'=>e=.returned (.bool (bV l m))∧Below w.heap.size w w':=by
 have hlA:=hA.big
 have hlB:=hB.big
 have hrA:=hA.el
 have hrB:=hB.el
 by_cases hne:l.length=m.length
 ·have hF:Hid (bO l m=bV l m):=gn l m
  have hbn:((l.length:Int) != (m.length:Int))=false:=by simp [hne]
  have HE:=Lib.hid hne; clear hne
  go_enter Tryz.func102,Tryz.ntmps102
  go_wp2
  go_loopw [5] (fun i wr=>∃ k:Nat,k≤l.length∧i=O U k∧(∃ q:an w.heap.size w,wr=q.val)∧Hid (bO (l.drop k) (m.drop k)=bV l m)) (fun i _=>l.length - (intOf i).toNat)
  case atStart=>exact ⟨0,Nat.zero_le _,rfl,⟨an.start _ _,rfl⟩,hF⟩
  case round =>
   obtain ⟨k,hk,rfl,⟨q,rfl⟩,HR⟩:=hrel
   by_cases hlt:k < l.length
   ·have hlt' : k < m.length:=by have:=HE.out; omega
    obtain ⟨b,off,rfl,hb,hcell⟩:=hrA (by omega)
    obtain ⟨b',off',rfl,hb',hcell'⟩:=hrB (by omega)
    obtain ⟨c0,c1,c2⟩:=hcell k hlt
    obtain ⟨d0,d1,d2⟩:=hcell' k hlt'
    obtain ⟨x,hxe⟩ : ∃ x,x=l[k]:=⟨_,rfl⟩
    obtain ⟨y,hye⟩ : ∃ x,x=m[k]:=⟨_,rfl⟩
    rw [← hxe] at c0 c1 c2
    rw [← hye] at d0 d1 d2
    have HX:=Lib.hid hxe; clear hxe
    have HY:=Lib.hid hye; clear hye
    clear hcell hcell' hrA hrB
    have hstep:Hid (bO (l.drop k) (m.drop k)=(decide (x=y) && bO (l.drop (k+1)) (m.drop (k+1)))):=by
     rw [List.drop_eq_getElem_cons hlt,List.drop_eq_getElem_cons hlt',HX.out,HY.out]; rfl
    obtain ⟨v,hv⟩ : ∃ v,decide (x=y)=v:=⟨_,rfl⟩
    have HV:=Lib.hid hv; clear hv
    cases v
    all_goals
     go_wp2
     refine bp _ (by kernel_rfl) (by kernel_rfl) ?_
     repeat (any_goals (first | go_big_quiet_step ((go_at_call 160; refine jE HV (Nat.le_refl _) (na x y _))) | (refine wpQuiet_step (fun K hK=>?_); go_simp; split <;> (refine hK _ ?_; clear hK K))))
     all_goals (refine wpQuiet_nil ?_; rintro _ ⟨q1,rfl⟩)
     all_goals go_wp2
    ·go_ret
     refine ⟨?_,q1.below⟩
     rw [← HR.out,hstep.out,HV.out]; rfl
    ·go_roundw
     case rel=>exact ⟨k+1,by omega,by go_num,⟨q1,rfl⟩,by have h1:=HR.out; rw [hstep.out,HV.out] at h1; exact h1⟩
     case measure=>simp [intOf]; omega
   ·have hk' : k=l.length:=by omega
    go_wp2
    go_ret
    refine ⟨?_,q.below⟩
    rw [← HR.out,List.drop_eq_nil_of_le (by omega),List.drop_eq_nil_of_le (by have:=HE.out; omega)]; rfl
 ·have hbn:((l.length:Int) != (m.length:Int))=true:=by rw [bne_iff_ne]; omega
  have hF:Hid (bV l m=false):=by
   unfold bV; rw [decide_eq_false_iff_not]; intro h; exact hne (by rw [h])
  go_enter Tryz.func102,Tryz.ntmps102
  go_wp2
  go_ret
  exact ⟨by rw [hF.out]; rfl,Below.refl _ _⟩
set_option maxHeartbeats 1000000 in
theorem eu (A:Option Addr) (c n B:Nat) (k0:Int) (cs:List Value) (w:World) (hk : -1000000000≤k0) (hk' : k0≤1000000000) (hn:n≤100000000) (h:bM w B 147 3 A n cs) :
  Calls Tryz.prog 104 #[F A n c,O U k0] w fun e w'=>e=.returned (O U (k0+3 * n))∧bM w' B 147 3 A n (bi (ramp k0 (n * 3)))∧w.grownBy w' (A.map (·.block)):=by
 obtain ⟨hl,hn',h0 | ⟨g,rest,rfl,hg,hh⟩⟩:=h
 ·obtain ⟨rfl,rfl⟩:=h0
  go_enter Tryz.func104,Tryz.ntmps104
  go_wp2
  refine wp_loop_rounds 1 ?_
  rw [rounds_succ]
  go_wp2
  go_ret
  exact ⟨by simp,⟨by simp [ramp],by omega,.inl ⟨rfl,rfl⟩⟩,World.grownBy.refl w _⟩
 ·have HF:Hid (ai w g 147 (bi (ramp k0 (0 * 3))++(cs++rest))∧n * 3≤(cs++rest).length):=⟨by simpa [ramp] using hh,by simp; omega⟩
  clear hh hl
  go_enter Tryz.func104,Tryz.ntmps104
  go_wp2
  go_loopw [1,5] (fun kk i wr=>∃ (j:Nat) (more:List Value),j≤n∧i=O U j∧kk=O U (k0+3 * j)∧Hid (ai wr g 147 (bi (ramp k0 (j * 3))++more)∧n * 3≤j * 3+more.length)∧w.grownBy wr (some g)) (fun _ i _=>n - (intOf i).toNat)
  case atStart=>exact ⟨0,cs++rest,Nat.zero_le _,rfl,congrArg _ (by simp),⟨HF.out.1,by have:=HF.out.2; omega⟩,World.grownBy.refl w _⟩
  case round =>
   obtain ⟨j,more,hj,rfl,rfl,HR,hgr⟩:=hrel
   by_cases hlt:j < n
   ·obtain ⟨u0,u1,u2,more',rfl⟩ : ∃ u0 u1 u2 more',more=u0 :: u1 :: u2 :: more':=by
     have h2:=HR.out.2
     have hle:3≤more.length:=by omega
     clear HR HF
     exact sc hle
    have HE:Hid ((bi (ramp k0 (j * 3))).length=j * 3):=by unfold Hid bi; rw [List.length_map,fN]
    have c0:wr.cell? ⟨g,j * 3,none⟩=some u0:=(HR.out.1.cell _).trans (gG HE.out 0)
    have f0:wr.frozen? ⟨g,j * 3,none⟩=false:=HR.out.1.frozen _
    have c1:wr.cell? ⟨g,j * 3+1,none⟩=some u1:=(HR.out.1.cell _).trans (gG HE.out 1)
    have f1:wr.frozen? ⟨g,j * 3+1,none⟩=false:=HR.out.1.frozen _
    have c2:wr.cell? ⟨g,j * 3+2,none⟩=some u2:=(HR.out.1.cell _).trans (gG HE.out 2)
    have f2:wr.frozen? ⟨g,j * 3+2,none⟩=false:=HR.out.1.frozen _
    go_wp2
    go_roundw
    case rel =>
     refine ⟨j+1,more',by omega,by go_num,congrArg _ (by omega),⟨?_,by have:=HR.out.2; simp only [List.length_cons] at this; omega⟩,ab (ab (ab (hgr)))⟩
     have h1:=HR.out.1
     have h1:=h1.set (j * 3) (O U (k0+3 * (j:Int)))
     have e0:=fun r u=>fO (r:=r) HE.out 0 (u:Value)
     rw [Nat.add_zero] at e0
     rw [e0] at h1
     have h1:=h1.set (j * 3+1) (O U (k0+3 * (j:Int)+1))
     rw [fO HE.out 1] at h1
     have h1:=h1.set (j * 3+2) (O U (k0+3 * (j:Int)+1+1))
     rw [fO HE.out 2] at h1
     have e:ramp k0 ((j+1) * 3)=ramp k0 (j * 3)++[k0+3 * (j:Int),k0+3 * (j:Int)+1,k0+3 * (j:Int)+1+1]:=by
      rw [show (j+1) * 3=j * 3+3 by omega]
      simp only [kc,List.append_assoc,List.cons_append,List.nil_append]
      simp
      omega
     rw [e]
     unfold bi at h1 ⊢
     rw [List.map_append,List.append_assoc]
     exact h1
    case measure=>simp [intOf]; omega
   ·have HJ:Hid (j=n):=by unfold Hid; omega
    go_wp2
    go_ret
    refine ⟨by rw [← HJ.out]; rfl,⟨by rw [mJ,fN,Nat.mul_one],hn',.inr ⟨g,more,rfl,hg,by rw [← HJ.out]; exact HR.out.1⟩⟩,hgr⟩
set_option maxHeartbeats 1000000 in
theorem ix (A:Option Addr) (c n:Nat) (k0:Int) (w:World) (hk : -1000000000≤k0) (hk' : k0≤1000000000) (hn:n≤100000000) (h:bv w w.heap.size 3 A n (bi (ramp k0 (n * 3)))) :
  Calls Tryz.prog 106 #[F A n c,O U k0] w fun e w'=>e=.returned (O U (k0+3 * n))∧Below w.heap.size w w':=by
 have hrd:=h.at_
 go_enter Tryz.func106,Tryz.ntmps106
 go_wp2
 go_loopw [1,5] (fun kk i wr=>∃ j:Nat,j≤n∧i=O U j∧kk=O U (k0+3 * j)∧Below w.heap.size w wr) (fun _ i _=>n - (intOf i).toNat)
 case atStart=>exact ⟨0,Nat.zero_le _,rfl,congrArg _ (by simp),Below.refl _ _⟩
 case round =>
  obtain ⟨j,hj,rfl,rfl,hbr⟩:=hrel
  by_cases hlt:j < n
  ·obtain ⟨b,off,rfl,hb,hcell⟩:=hrd (by omega)
   obtain ⟨q,rfl⟩ : ∃ q:an w.heap.size w,wr=q.val:=⟨⟨wr,hbr⟩,rfl⟩
   have key:∀ (i:Nat),i < 3→∀ p:an w.heap.size w,p.val.cell? ⟨b,off+j * 3+i,none⟩=some (O U (k0+3 * (j:Int)+i)):=fun i hi p=>by
    rw [p.cell hb,Nat.add_assoc,hcell (j * 3+i) _ (kF (by omega))]
    congr 2
    omega
   have c0:∀ p:an w.heap.size w,p.val.cell? ⟨b,off+j * 3,none⟩=some (O U (k0+3 * (j:Int))):=fun p=>by
    have:=key 0 (by omega) p
    simpa using this
   have c1:∀ p:an w.heap.size w,p.val.cell? ⟨b,off+j * 3+1,none⟩=some (O U (k0+3 * (j:Int)+1)):=fun p=>by
    have:=key 1 (by omega) p
    rw [this]; congr 2 <;> omega
   have c2:∀ p:an w.heap.size w,p.val.cell? ⟨b,off+j * 3+2,none⟩=some (O U (k0+3 * (j:Int)+1+1)):=fun p=>by
    have:=key 2 (by omega) p
    rw [this]; congr 2 <;> omega
   clear key hcell hrd
   go_wp2
   go_roundw
   case rel=>exact ⟨j+1,by omega,by go_num,congrArg _ (by omega),q.below⟩
   case measure=>simp [intOf]; omega
  ·have HJ:Hid (j=n):=by unfold Hid; omega
   clear hrd
   go_wp2
   go_ret
   exact ⟨by rw [← HJ.out]; rfl,hbr⟩
structure aL where
 TA:Option Addr
 t:List ao
 tc:Nat
 OA:Option Addr
 o:List ae
 oc:Nat
 got:Int
 sold:Int
 missed:Int
def aL.enc (x:aL):List Value:=[F x.TA x.t.length x.tc,F x.OA x.o.length x.oc,O U x.got,O U x.sold,O U x.missed]
abbrev aL.val (x:aL):Value:=.agg #[F x.TA x.t.length x.tc,F x.OA x.o.length x.oc,O U x.got,O U x.sold,O U x.missed]
theorem aL.enc_len (x:aL):x.enc.length=5:=rfl
structure aO (w:World) (B:Nat) (x:aL):Prop where
 ts:eK w B x.TA x.t
 os:dC w B x.OA x.o
section
variable {w w' : World} {B:Nat} {x:aL}
theorem aO.below (h:aO w B x) (hb:Below B w w'):aO w' B x:=⟨bv.below h.ts hb,bv.below h.os hb⟩
theorem aO.mono {B' : Nat} (h:aO w B x) (hB:B≤B'):aO w B' x:=⟨bv.mono h.ts hB,bv.mono h.os hB⟩
theorem aO.up (h:aO w B x) (hb:Below B w w') (hB:B≤w.heap.size):aO w' w'.heap.size x:=⟨bv.up h.ts hb hB,bv.up h.os hb hB⟩
theorem aO.then (h:aO w w.heap.size x) (hb:Below w.heap.size w w'):aO w' w'.heap.size x:=h.up hb (Nat.le_refl _)
end
def ao.ok (r:ao):Bool:=bU r.k 1 99 && bU r.c 0 9999
theorem ao.bounds {r:ao} (h:r.ok=true):(1≤r.k∧r.k≤99)∧0≤r.c∧r.c≤9999:=by
 unfold ao.ok at h; rw [Bool.and_eq_true,bK,bK] at h; exact h
def cy:Nat→Int→List ao→Bool
 | _,_,[]=>true
 | n,p,r :: l=>r.ok && (decide (n=0) || decide (p < r.k)) && cy (n+1) r.k l
def ew (l:List ao):Bool:=cy 0 0 l
theorem fk:∀ (l:List ao) (n:Nat) (p:Int),cy n p l=true→∀ i (h:i < l.length),l[i].ok=true
 | r :: l,n,p,hg,i,hi=>by
  simp only [cy,Bool.and_eq_true] at hg
  cases i with
  | zero=>exact hg.1.1
  | succ i=>exact fk l (n+1) r.k hg.2 i (by simpa using hi)
def aM (ts:List ao) (k:Int):Bool:=ts.any fun t=>decide (t.k=k)
def au (ts:List ao) (k:Int):Int:=bf (fun t:ao=>decide (t.k=k)) 0 ts
theorem cU (ts:List ao) (k:Int):decide (0≤au ts k)=aM ts k:=kG _ ts 0
def ae.ok (ts:List ao) (r:ae):Bool:=aM ts r.k && bU r.p 1 999 && bU r.c 1 9999
theorem ae.bounds {ts:List ao} {r:ae} (h:r.ok ts=true):aM ts r.k=true∧(1≤r.p∧r.p≤999)∧1≤r.c∧r.c≤9999:=by
 unfold ae.ok at h; rw [Bool.and_eq_true,Bool.and_eq_true,bK,bK] at h; exact ⟨h.1.1,h.1.2,h.2⟩
def before (a b:ae):Bool:=decide (a.k < b.k) || decide (a.k=b.k) && decide (a.p < b.p)
def di (ts:List ao):Option ae→List ae→Bool
 | _,[]=>true
 | p,r :: l=>r.ok ts && (match p with | none=>true | some q=>before q r) && di ts (some r) l
def ei (ts:List ao) (l:List ae):Bool:=di ts none l
theorem eM (ts:List ao):∀ (l:List ae) (p:Option ae),di ts p l=true→∀ i (h:i < l.length),l[i].ok ts=true
 | r :: l,p,hg,i,hi=>by
  simp only [di,Bool.and_eq_true] at hg
  cases i with
  | zero=>exact hg.1.1
  | succ i=>exact eM ts l (some r) hg.2 i (by simpa using hi)
theorem dN {ts:List ao} {k:Int} (hall:∀ i (h:i < ts.length),ts[i].ok=true) (h:aM ts k=true):1≤k∧k≤99:=by
 unfold aM at h
 rw [List.any_eq_true] at h
 obtain ⟨t,ht,hk⟩:=h
 obtain ⟨i,hi,rfl⟩:=List.getElem_of_mem ht
 have:=(ao.bounds (hall i hi)).1
 have e:=of_decide_eq_true hk
 omega
theorem lH {a b:ae} (ha:1≤a.p∧a.p≤999) (hb:1≤b.p∧b.p≤999):before a b=decide (1000 * a.k+a.p < 1000 * b.k+b.p):=by
 unfold before
 by_cases h1:a.k < b.k
 ·rw [decide_eq_true h1,Bool.true_or]; exact (decide_eq_true (by omega)).symm
 ·rw [decide_eq_false h1,Bool.false_or]
  by_cases h2:a.k=b.k
  ·rw [decide_eq_true h2,Bool.true_and]
   by_cases h3:a.p < b.p
   ·rw [decide_eq_true h3]; exact (decide_eq_true (by omega)).symm
   ·rw [decide_eq_false h3]; exact (decide_eq_false (by omega)).symm
  ·rw [decide_eq_false h2,Bool.false_and]; exact (decide_eq_false (by omega)).symm
def fy:Int→List ao→Int
 | s,[]=>s
 | s,r :: l=>fy (s+r.c) l
def bo (f:ae→Bool):Int→List ae→Int
 | s,[]=>s
 | s,r :: l=>bo f (if f r then s+r.c else s) l
def bZ (l:List ao):Int:=fy 0 l
def aS (f:ae→Bool) (l:List ae):Int:=bo f 0 l
abbrev ck:ae→Bool:=fun _=>true
theorem qg {l:List ao} {k:Nat} (h:k < l.length) (s:Int):fy s (l.drop k)=fy (s+l[k].c) (l.drop (k+1)):=by
 rw [List.drop_eq_getElem_cons h]; rfl
theorem jG {f:ae→Bool} {l:List ae} {k:Nat} (h:k < l.length) (s:Int):bo f s (l.drop k)=bo f (if f l[k] then s+l[k].c else s) (l.drop (k+1)):=by
 rw [List.drop_eq_getElem_cons h]; rfl
theorem iU:∀ (l:List ao) (s:Int),(∀ i (h:i < l.length),l[i].ok=true)→s≤fy s l∧fy s l≤s+9999 * l.length
 | [],s,_=>by simp [fy]
 | r :: l,s,h=>by
  have hr:=(ao.bounds (h 0 (by simp))).2
  simp only [List.getElem_cons_zero] at hr
  have:=iU l (s+r.c) (fun i hi=>by have:=h (i+1) (by simpa using hi); simpa using this)
  simp only [fy,List.length_cons]
  omega
theorem ez (f:ae→Bool) (ts:List ao):∀ (l:List ae) (s:Int),(∀ i (h:i < l.length),l[i].ok ts=true)→s≤bo f s l∧bo f s l≤s+9999 * l.length
 | [],s,_=>by simp [bo]
 | r :: l,s,h=>by
  have hr:=(ae.bounds (h 0 (by simp))).2.2
  simp only [List.getElem_cons_zero] at hr
  have:=ez f ts l (if f r then s+r.c else s) (fun i hi=>by have:=h (i+1) (by simpa using hi); simpa using this)
  simp only [bo,List.length_cons]
  cases hf:f r <;> simp only [hf,if_true,if_false,Bool.false_eq_true] at this ⊢ <;> omega
def ex (x:aL):Bool:=decide (x.t.length≤8) && decide (x.o.length≤8)
def ic (x:aL):Bool:=bU x.got 0 99999 && bU x.sold 0 99999 && bU x.missed 0 99999
def kI (x:aL):Bool:=decide (x.got=bZ x.t+aS ck x.o+x.sold+x.missed)
def al (x:aL):Bool:=ex x && ic x && ew x.t && ei x.t x.o && kI x
structure bj (x:aL):Prop where
 tl:x.t.length≤8
 ol:x.o.length≤8
 g:0≤x.got∧x.got≤99999
 s:0≤x.sold∧x.sold≤99999
 m:0≤x.missed∧x.missed≤99999
 ts:ew x.t=true
 os:ei x.t x.o=true
 sum:x.got=bZ x.t+aS ck x.o+x.sold+x.missed
theorem bg {x:aL} : al x=true ↔ bj x:=by
 unfold al ex ic kI
 simp only [Bool.and_eq_true,bK,decide_eq_true_eq]
 constructor
 ·rintro ⟨⟨⟨⟨⟨h1,h2⟩,⟨h3,h4⟩,h5⟩,h6⟩,h7⟩,h8⟩
  exact ⟨h1,h2,h3,h4,h5,h6,h7,h8⟩
 ·rintro ⟨h1,h2,h3,h4,h5,h6,h7,h8⟩
  exact ⟨⟨⟨⟨⟨h1,h2⟩,⟨h3,h4⟩,h5⟩,h6⟩,h7⟩,h8⟩
theorem bj.tall {x:aL} (h:bj x):∀ i (hi:i < x.t.length),x.t[i].ok=true:=fk _ _ _ h.ts
theorem bj.oall {x:aL} (h:bj x):∀ i (hi:i < x.o.length),x.o[i].ok x.t=true:=eM _ _ _ h.os
structure Oc where
 t:List ao
 o:List ae
 got:Int
 sold:Int
 missed:Int
 deriving DecidableEq,Inhabited
def aL.c (x:aL):Oc:=⟨x.t,x.o,x.got,x.sold,x.missed⟩
def Oc.at (y:Oc) (TA:Option Addr) (tc:Nat) (OA:Option Addr) (oc:Nat):aL:=⟨TA,y.t,tc,OA,y.o,oc,y.got,y.sold,y.missed⟩
def Oc.good (y:Oc):Bool:=al (y.at none 0 none 0)
theorem Oc.good_at (y:Oc) (TA:Option Addr) (tc:Nat) (OA:Option Addr) (oc:Nat):al (y.at TA tc OA oc)=y.good:=rfl
theorem aL.good_c (x:aL):x.c.good=al x:=rfl
structure dG where
 kind:Int
 stamp:Int
 person:Int
 value:Int
 deriving DecidableEq,Inhabited
def dG.enc (s:dG):List Value:=[O U s.kind,O U s.stamp,O U s.person,O U s.value]
abbrev dG.val (s:dG):Value:=.agg #[O U s.kind,O U s.stamp,O U s.person,O U s.value]
theorem dG.enc_len (s:dG):s.enc.length=4:=rfl
def dG.okS (s:dG):Bool :=
  (if s.kind = 1 then decide (s.person = 0) && bU s.value 1 9999
   else if s.kind = 2 ∨ s.kind = 3 then bU s.person 1 999 && bU s.value 1 9999
   else if s.kind = 4 then (bU s.person 1 999 || decide (s.person = 0)) && bU s.value 1 9999
   else if s.kind = 5 then bU s.person 1 999 && decide (s.value = 0)
   else if s.kind = 6 then bU s.person 1 999 && bU s.value 1 999
   else false) && bU s.stamp 1 99
def dG.ok (s:dG):Bool :=
  bU s.stamp 1 99 &&
  (if s.kind = 1 then decide (s.person = 0) && bU s.value 1 9999
   else if s.kind = 2 ∨ s.kind = 3 then bU s.person 1 999 && bU s.value 1 9999
   else if s.kind = 4 then bU s.person 0 999 && bU s.value 1 9999
   else if s.kind = 5 then bU s.person 1 999 && decide (s.value = 0)
   else if s.kind = 6 then bU s.person 1 999 && bU s.value 1 999 && decide (s.value ≠ s.person)
   else false)
inductive dG.Is (s:dG):Prop
 | get (hk:s.kind=1) (hp:s.person=0) (hv:1≤s.value∧s.value≤9999)
 | show_ (hk:s.kind=2) (hp:1≤s.person∧s.person≤999) (hv:1≤s.value∧s.value≤9999)
 | back (hk:s.kind=3) (hp:1≤s.person∧s.person≤999) (hv:1≤s.value∧s.value≤9999)
 | sell0 (hk:s.kind=4) (hp:s.person=0) (hv:1≤s.value∧s.value≤9999)
 | sell (hk:s.kind=4) (hp:1≤s.person∧s.person≤999) (hv:1≤s.value∧s.value≤9999)
 | miss (hk:s.kind=5) (hp:1≤s.person∧s.person≤999) (hv:s.value=0)
 | move (hk:s.kind=6) (hp:1≤s.person∧s.person≤999) (hv:1≤s.value∧s.value≤999)
theorem dG.okS_is {s:dG} (h:s.okS=true):(1≤s.stamp∧s.stamp≤99)∧s.Is:=by
 unfold dG.okS at h
 rw [Bool.and_eq_true,bK] at h
 refine ⟨h.2, ?_⟩
 have h:=h.1
 split at h
 ·rename_i hk; simp only [Bool.and_eq_true,bK,decide_eq_true_eq] at h; exact .get hk h.1 h.2
 ·split at h
  ·rename_i hk; simp only [Bool.and_eq_true,bK] at h
   rcases hk with hk | hk
   ·exact .show_ hk h.1 h.2
   ·exact .back hk h.1 h.2
  ·split at h
   ·rename_i hk; simp only [Bool.and_eq_true,Bool.or_eq_true,bK,decide_eq_true_eq] at h
    rcases h.1 with hp | hp
    ·exact .sell hk hp h.2
    ·exact .sell0 hk hp h.2
   ·split at h
    ·rename_i hk; simp only [Bool.and_eq_true,bK,decide_eq_true_eq] at h; exact .miss hk h.1 h.2
    ·split at h
     ·rename_i hk; simp only [Bool.and_eq_true,bK] at h; exact .move hk h.1 h.2
     ·cases h
theorem dG.ok_okS (s:dG):s.ok=(s.okS && !(decide (s.kind=6) && decide (s.value=s.person))):=by
 unfold dG.ok dG.okS
 generalize hst:bU s.stamp 1 99=st
 by_cases h1:s.kind=1
 ·have e:decide (s.kind=6)=false:=decide_eq_false (by omega)
  rw [if_pos h1,if_pos h1,e]; cases st <;> simp
 ·rw [if_neg h1,if_neg h1]
  by_cases h2:s.kind=2 ∨ s.kind=3
  ·have e:decide (s.kind=6)=false:=decide_eq_false (by omega)
   rw [if_pos h2,if_pos h2,e]; cases st <;> simp
  ·rw [if_neg h2,if_neg h2]
   by_cases h4:s.kind=4
   ·have e:decide (s.kind=6)=false:=decide_eq_false (by omega)
    have e2:bU s.person 0 999=(bU s.person 1 999 || decide (s.person=0)):=by
     rw [Bool.eq_iff_iff,Bool.or_eq_true,bK,bK,decide_eq_true_eq]; omega
    rw [if_pos h4,if_pos h4,e,e2]; cases st <;> simp
   ·rw [if_neg h4,if_neg h4]
    by_cases h5:s.kind=5
    ·have e:decide (s.kind=6)=false:=decide_eq_false (by omega)
     rw [if_pos h5,if_pos h5,e]; cases st <;> simp
    ·rw [if_neg h5,if_neg h5]
     by_cases h6:s.kind=6
     ·rw [if_pos h6,if_pos h6,decide_eq_true h6]
      by_cases h7:s.value=s.person
      ·simp [h7]
      ·simp [h7]; cases st <;> simp
     ·rw [if_neg h6,if_neg h6]; cases st <;> rfl
def cF (ts:List ao) (kd:Int):Nat:=(ts.takeWhile fun t=>decide (t.k < kd)).length
theorem iV (ts:List ao) (kd:Int):cF ts kd≤ts.length:=by
 unfold cF; exact (List.takeWhile_prefix _).length_le
theorem iW (t:ao) (ts:List ao) (kd:Int):cF (t :: ts) kd=if t.k < kd then cF ts kd+1 else 0:=by
 unfold cF; rw [List.takeWhile_cons]; by_cases h:t.k < kd <;> simp [h]
theorem qh:∀ (ts:List ao) (kd:Int) (i:Nat) (h:i < ts.length),i < cF ts kd→ts[i].k < kd
 | t :: ts,kd,i,h,hi=>by
  rw [iW] at hi
  split at hi
  ·cases i with
   | zero=>assumption
   | succ i=>exact qh ts kd i (by simpa using h) (by omega)
  ·omega
theorem qi:∀ (ts:List ao) (kd:Int) (h:cF ts kd < ts.length),¬ ts[cF ts kd].k < kd
 | t :: ts,kd,h=>by
  by_cases hk:t.k < kd
  ·have e:cF (t :: ts) kd=cF ts kd+1:=by rw [iW,if_pos hk]
   simp only [e,List.getElem_cons_succ]
   exact qi ts kd (by simpa [e] using h)
  ·have e:cF (t :: ts) kd=0:=by rw [iW,if_neg hk]
   simp only [e,List.getElem_cons_zero]; exact hk
def sG (ts:List ao):Prop:=ts.Pairwise fun a b=>a.k < b.k
theorem ji:∀ (ts:List ao) (n:Nat) (p:Int),cy n p ts=true→sG ts∧(n ≠ 0→∀ t ∈ ts,p < t.k)
 | [],_,_,_=>⟨List.Pairwise.nil,fun _ t ht=>by cases ht⟩
 | r :: l,n,p,h=>by
  simp only [cy,Bool.and_eq_true,Bool.or_eq_true,decide_eq_true_eq] at h
  obtain ⟨h1,h2⟩:=ji l (n+1) r.k h.2
  have h3:=h2 (by omega)
  refine ⟨List.pairwise_cons.2 ⟨h3,h1⟩,fun hn t ht=>?_⟩
  have hp:p < r.k:=by rcases h.1.2 with h0 | h0; exact absurd h0 hn; exact h0
  rcases List.mem_cons.1 ht with rfl | ht
  ·exact hp
  ·have:=h3 t ht; omega
theorem sd (ts:List ao) (kd:Int) (ha:sG ts) (i:Nat) (h:i < ts.length) (hi:cF ts kd≤i) : ¬ ts[i].k < kd:=by
 have h0:=qi ts kd (by omega)
 rcases Nat.lt_or_ge (cF ts kd) i with hlt | hge
 ·have:=List.pairwise_iff_getElem.1 ha (cF ts kd) i (by omega) h hlt
  omega
 ·have e:cF ts kd=i:=by omega
  simp only [e] at h0; exact h0
def ah (ts:List ao) (kd n:Int):List ao :=
 if 0≤au ts kd then ts.set (au ts kd).toNat ⟨(ts.getD (au ts kd).toNat default).k,(ts.getD (au ts kd).toNat default).c+n⟩
 else ts.take (cF ts kd)++⟨kd,n⟩ :: ts.drop (cF ts kd)
def dj (ts:List ao) (kd:Int):List ao:=ts.take (cF ts kd)++⟨kd,0⟩ :: ts.drop (cF ts kd)
theorem iG {α:Type} (f:α→Bool) (y:α) (r:List α) (hy:f y=true):∀ (l:List α) (k:Nat),(∀ x ∈ l,f x=false)→bf f k (l++y :: r)=(k+l.length:Nat)
 | [],k,_=>by simp [bf,hy]
 | x :: l,k,h=>by
  rw [List.cons_append,bf,h x (by simp)]
  rw [if_neg (by simp),iG f y r hy l (k+1) fun y hy=>h y (by simp [hy])]
  simp; omega
theorem lI {α:Type} (f:α→Bool):∀ (l:List α) (k:Nat),bf f k l < k+l.length
 | [],_=>by simp [bf]; omega
 | x :: l,k=>by
  rw [bf]; split
  ·simp; omega
  ·have:=lI f l (k+1); simp only [List.length_cons]; omega
theorem ke {ts:List ao} {kd:Int} (h:0≤au ts kd):(au ts kd).toNat < ts.length:=by
 have:=lI (fun t:ao=>decide (t.k=kd)) ts 0
 change au ts kd < _ at this; omega
theorem kJ {ts:List ao} {kd:Int} (h : ¬ 0≤au ts kd):∀ t ∈ ts,t.k ≠ kd:=by
 have h1:=cU ts kd
 rw [decide_eq_false h] at h1
 intro t ht e
 have:aM ts kd=true:=by unfold aM; rw [List.any_eq_true]; exact ⟨t,ht,decide_eq_true e⟩
 rw [this] at h1; cases h1
theorem pn {ts:List ao} {kd:Int} (h : ¬ 0≤au ts kd):au (dj ts kd) kd=cF ts kd:=by
 have h0:=kJ h
 unfold au dj
 rw [iG _ _ _ (by simp) _ 0 fun t ht=>by simpa using h0 t (List.mem_of_mem_take ht)]
 simp [List.length_take,Nat.min_eq_left (iV ts kd)]
theorem nZ {ts:List ao} {kd:Int} (n:Int) (h : ¬ 0≤au ts kd) :
  ah ts kd n=(dj ts kd).set (cF ts kd) ⟨((dj ts kd).getD (cF ts kd) default).k,((dj ts kd).getD (cF ts kd) default).c+n⟩:=by
 unfold ah
 rw [if_neg h]
 have hl:(ts.take (cF ts kd)).length=cF ts kd:=by rw [List.length_take,Nat.min_eq_left (iV ts kd)]
 have e:(dj ts kd).getD (cF ts kd) default=⟨kd,0⟩:=by
  unfold dj
  rw [List.getD_eq_getElem?_getD,List.getElem?_append_right (by omega),hl,Nat.sub_self]; rfl
 rw [e]
 unfold dj
 rw [List.set_append_right _ _ (by omega),hl,Nat.sub_self,List.set_cons_zero,Int.zero_add]
theorem cW {a b:ae} : before a b=true ↔ a.k < b.k ∨ a.k=b.k∧a.p < b.p:=by
 unfold before; simp
def mq (os:List ae):Prop:=os.Pairwise fun a b=>before a b=true
theorem jH (ts:List ao):∀ (os:List ae) (p:Option ae),di ts p os=true→mq os∧∀ q,p=some q→∀ o ∈ os,before q o=true
 | [],_,_=>⟨List.Pairwise.nil,fun _ _ o ho=>by cases ho⟩
 | r :: l,p,h=>by
  simp only [di,Bool.and_eq_true] at h
  obtain ⟨h1,h2⟩:=jH ts l (some r) h.2
  have h3:=h2 r rfl
  refine ⟨List.pairwise_cons.2 ⟨h3,h1⟩, ?_⟩
  rintro q rfl o ho
  have hq:before q r=true:=h.1.2
  rcases List.mem_cons.1 ho with rfl | ho
  ·exact hq
  ·have:=h3 o ho
   rw [cW] at this hq ⊢; omega
def dV (k p:Int) (o:ae):Bool:=decide (o.k=k) && decide (o.p=p)
theorem dk {k p:Int} {o:ae} : dV k p o=true ↔ o.k=k∧o.p=p:=by unfold dV; simp
def aI (k p:Int):List ae→Int
 | []=>0
 | o :: l=>if dV k p o then o.c else aI k p l
def aH (k p:Int):Int→List ae→List ae
 | c,[]=>if c ≠ 0 then [⟨k,p,c⟩] else []
 | c,o :: l =>
  if before ⟨k,p,0⟩ o=true∧c ≠ 0 then ⟨k,p,c⟩ :: (if dV k p o then aH k p 0 l else o :: aH k p 0 l)
  else if dV k p o then aH k p c l else o :: aH k p c l
theorem lJ {k p:Int} : ∀ l:List ae,(∀ o ∈ l,dV k p o=false)→aH k p 0 l=l
 | [],_=>by simp [aH]
 | o :: l,h=>by
  rw [aH,if_neg (by simp),h o (by simp),if_neg (by simp),lJ l fun q hq=>h q (by simp [hq])]
theorem jI {k p:Int} {o:ae} (h:before ⟨k,p,0⟩ o=true):dV k p o=false:=by
 rw [cW] at h; simp only at h
 rw [Bool.eq_false_iff]; intro e; rw [dk] at e; omega
theorem mL {k p c:Int} (hc:c ≠ 0):∀ l:List ae,(∀ o ∈ l,before ⟨k,p,0⟩ o=true)→aH k p c l=⟨k,p,c⟩ :: l
 | [],_=>by simp [aH,hc]
 | o :: l,h=>by
  have ho:=h o (by simp)
  rw [aH,if_pos ⟨ho,hc⟩,jI ho,if_neg (by simp),lJ l fun q hq=>jI (h q (by simp [hq]))]
def dH (k p by_:Int):List ae→List ae
 | []=>[⟨k,p,by_⟩]
 | o :: l=>if before o ⟨k,p,0⟩ then o :: dH k p by_ l else if dV k p o then (if o.c+by_=0 then l else ⟨o.k,o.p,o.c+by_⟩ :: l) else ⟨k,p,by_⟩ :: o :: l
theorem ft {k p by_:Int} : ∀ l:List ae,mq l→(aI k p l=0→by_ ≠ 0)→dH k p by_ l=aH k p (aI k p l+by_) l
 | [],_,h=>by
  have hb:by_ ≠ 0:=h rfl
  simp [dH,aH,aI,hb]
 | o :: l,ha,h=>by
  obtain ⟨h1,h2⟩:=List.pairwise_cons.1 ha
  rw [dH]
  by_cases hb:before o ⟨k,p,0⟩=true
  ·have hn:dV k p o=false:=by
    rw [cW] at hb; simp only at hb
    rw [Bool.eq_false_iff]; intro e; rw [dk] at e; omega
   have hr : ¬ before ⟨k,p,0⟩ o=true:=by rw [cW] at hb ⊢; simp only at hb ⊢; omega
   have eo:aI k p (o :: l)=aI k p l:=by rw [aI,hn,if_neg (by simp)]
   rw [eo] at h ⊢
   rw [if_pos hb,ft l h2 h,aH,if_neg (fun e=>hr e.1),hn,if_neg (by simp)]
  ·rw [if_neg hb]
   by_cases hi:dV k p o=true
   ·have hi':=dk.1 hi
    have eo:aI k p (o :: l)=o.c:=by rw [aI,if_pos hi]
    have hr : ¬ before ⟨k,p,0⟩ o=true:=by rw [cW]; simp only; omega
    have hl:∀ q ∈ l,before ⟨k,p,0⟩ q=true:=fun q hq=>by
     have:=h1 q hq; rw [cW] at this ⊢; simp only at this ⊢; omega
    have eA:aH k p (o.c+by_) (o :: l)=aH k p (o.c+by_) l:=by rw [aH,if_neg (fun e=>hr e.1),if_pos hi]
    rw [eo,if_pos hi,eA]
    by_cases hz:o.c+by_=0
    ·rw [if_pos hz,hz,lJ l fun q hq=>jI (hl q hq)]
    ·rw [if_neg hz,mL hz l hl,hi'.1,hi'.2]
   ·have hi0:dV k p o=false:=Bool.eq_false_iff.2 hi
    have hr:before ⟨k,p,0⟩ o=true:=by
     rw [cW] at hb ⊢; simp only at hb ⊢
     rw [dk] at hi; omega
    have hl:∀ q ∈ l,before ⟨k,p,0⟩ q=true:=fun q hq=>by
     have:=h1 q hq; rw [cW] at this hr ⊢; simp only at this hr ⊢; omega
    have hall:∀ q ∈ l,dV k p q=false:=fun q hq=>jI (hl q hq)
    have e0:aI k p (o :: l)=0:=by
     have:∀ m:List ae,(∀ q ∈ m,dV k p q=false)→aI k p m=0:=by
      intro m; induction m with
      | nil=>intro _; rfl
      | cons q m ih=>intro hm; rw [aI,hm q (by simp),if_neg (by simp)]; exact ih fun r hr=>hm r (by simp [hr])
     exact this _ (by intro q hq; rcases List.mem_cons.1 hq with rfl | hq; exact hi0; exact hall q hq)
    have hb0:=h e0
    rw [if_neg hi,e0,Int.zero_add,mL hb0 (o :: l) (by intro q hq; rcases List.mem_cons.1 hq with rfl | hq; exact hr; exact hl q hq)]
theorem nb {k p:Int} : ∀ (l:List ae) (c:Int) (o:ae),o ∈ aH k p c l→o ∈ l ∨ o=⟨k,p,c⟩
 | [],c,o,h=>by
  rw [aH] at h; split at h
  ·simp at h; exact .inr h
  ·cases h
 | q :: l,c,o,h=>by
  have up0:∀ o,o ∈ (if dV k p q=true then aH k p 0 l else q :: aH k p 0 l)→o ∈ q :: l:=by
   intro o ho
   have hz:∀ m:List ae,∀ o ∈ aH k p 0 m,o ∈ m:=by
    intro m; induction m with
    | nil=>intro o ho; simp [aH] at ho
    | cons r m ih =>
     intro o ho
     rw [aH,if_neg (by simp)] at ho
     split at ho
     ·exact List.mem_cons_of_mem _ (ih o ho)
     ·rcases List.mem_cons.1 ho with rfl | ho
      ·simp
      ·exact List.mem_cons_of_mem _ (ih o ho)
   split at ho
   ·exact List.mem_cons_of_mem _ (hz l o ho)
   ·rcases List.mem_cons.1 ho with rfl | ho
    ·simp
    ·exact List.mem_cons_of_mem _ (hz l o ho)
  rw [aH] at h
  split at h
  ·rcases List.mem_cons.1 h with rfl | h
   ·exact .inr rfl
   ·exact .inl (up0 o h)
  ·split at h
   ·rcases nb l c o h with h | h
    ·exact .inl (List.mem_cons_of_mem _ h)
    ·exact .inr h
   ·rcases List.mem_cons.1 h with rfl | h
    ·exact .inl (by simp)
    ·rcases nb l c o h with h | h
     ·exact .inl (List.mem_cons_of_mem _ h)
     ·exact .inr h
theorem dW {k p:Int} : ∀ l:List ae,(aH k p 0 l).Sublist l
 | []=>by simp [aH]
 | o :: l=>by
  rw [aH,if_neg (by simp)]
  split
  ·exact (dW l).cons o
  ·exact (dW l).cons_cons o
theorem kg {k p:Int} : ∀ l:List ae,aI k p l=0 ∨ ∃ o ∈ l,dV k p o=true∧o.c=aI k p l
 | []=>.inl rfl
 | o :: l=>by
  rw [aI]; split
  ·rename_i h; exact .inr ⟨o,by simp,h,rfl⟩
  ·rcases kg (k:=k) (p:=p) l with h | ⟨q,hq,h⟩
   ·exact .inl h
   ·exact .inr ⟨q,by simp [hq],h⟩
theorem lK {k p:Int} : ∀ l:List ae,(∀ o ∈ l,dV k p o=false)→aI k p l=0
 | [],_=>rfl
 | o :: l,h=>by rw [aI,h o (by simp),if_neg (by simp)]; exact lK l fun q hq=>h q (by simp [hq])
theorem kh {k p:Int} : ∀ (l:List ae) (s:Int),mq l→bo (dV k p) s l=s+aI k p l
 | [],s,_=>by simp [bo,aI]
 | o :: l,s,ha=>by
  obtain ⟨h1,h2⟩:=List.pairwise_cons.1 ha
  rw [bo,aI]
  by_cases hi:dV k p o=true
  ·rw [if_pos hi,if_pos hi,kh l _ h2,lK l,Int.add_zero]
   intro q hq
   have:=h1 q hq
   rw [cW] at this
   have hi':=dk.1 hi
   rw [Bool.eq_false_iff]; intro e; rw [dk] at e; omega
  ·rw [if_neg hi,if_neg hi]; exact kh l s h2
end Go.Proofs.YtoeoimhemojdeaaGreatDoor
