/- Lemmas. -/
import Derived.Test.YtoeoimhemojdeaaGreatDoorProg
import Derived.Lib.ItoaNum
import Derived.Lib.ItoaLen
import Derived.Lib.IndexLaws
import Derived.Lib.LastIndexLaws
import Derived.Lib.IndexMore
import Derived.Shelf.LaysM
import Derived.Shelf.LaysC
import Derived.Shelf.Strconv.Itoa3
import Derived.Shelf.Strconv.AtoiAll
import Derived.Shelf.Small.Wraps
import Derived.Shelf.Small.Strs
import Derived.Shelf.Strings.Search3
import Derived.Shelf.Strings.LastIndexAll
import Derived.Shelf.Strings.Prefix
import Derived.Shelf.Strings.Split
import Derived.Shelf.Slices.Turned
import Derived.WalkSmall
import Derived.Lib.AppendIntMem
import Derived.Test.YtoeoimhemojdeaaGreatDoorFs22
import Derived.Test.YtoeoimhemojdeaaGreatDoorFs23
import Derived.Test.YtoeoimhemojdeaaGreatDoorFs24
import Derived.Test.YtoeoimhemojdeaaGreatDoorFs25

set_option linter.unusedVariables false
set_option linter.unusedSimpArgs false
set_option maxHeartbeats 8000000
open Go.Value renaming int → O, slice → F, string → wG
open Go.IntKind renaming i64 → U
open Go.Proofs.Tryz renaming prog → wH

namespace Go.Proofs.YtoeoimhemojdeaaGreatDoor
open Go.RowKit
theorem qS (x:aO) (kd st pe va:Int) (R:Oc × Bool) (hk:(kd == 1)=false) (ya:1≤pe) (ht:0≤ay x.t st) (w:World) (h:aQ w w.heap.size x) (G:bK x) (wX:x.t.length≤x.tc)
  (hP:∀ W,aQ W W.heap.size x→Calls wH 175 #[x.val,.agg #[O U kd,O U st,O U pe,O U va]] W (dz W R)) :
  Calls wH 127 #[x.val,.agg #[O U kd,O U st,O U pe,O U va]] w (dz w (R.1,R.2 && R.1.good)):=by
 obtain ⟨r,b⟩:=R
 cases b
 ·rw [Bool.false_and]; exact nP x kd st pe va r hk ya ht w h G wX hP
 ·rw [Bool.true_and]; exact ni x kd st pe va r hk ya ht w h G wX hP
theorem qT (x:aO) (s:df) (w:World) (h:aQ w w.heap.size x) (G:bK x) (wX:x.t.length≤x.tc) (hs:s.okS=true) :
  Calls wH 127 #[x.val,s.val] w (dz w (f9 x.c s)):=by
 obtain ⟨xl,hI⟩:=df.okS_is hs
 clear hs
 obtain ⟨kd,st,pe,va⟩:=s
 by_cases hT:ay x.t st < 0
 ·have own:∀ kd:Int,kd ≠ 1→Calls wH 127 #[x.val,.agg #[O U kd,O U st,O U pe,O U va]] w (dz w (f9 x.c ⟨kd,st,pe,va⟩)):=fun kd hk=>by
   rw [show f9 x.c ⟨kd,st,pe,va⟩=(x.c,false) from by
    unfold f9; rw [if_neg (show ¬ (df.mk kd st pe va).kind=1 from hk),if_pos (show ay x.c.t st < 0 from hT)]]
   exact uV x kd st pe va (by simpa using hk) hT w h G wX
  cases hI with
  | get hk hp hv =>
   simp only at hk hp hv xl; subst hk
   exact qR x st pe va xl hv w h G wX
  | show_ hk hp hv=>simp only at hk; subst hk; exact own 2 dD
  | back hk hp hv=>simp only at hk; subst hk; exact own 3 dD
  | sell0 hk hp hv=>simp only at hk; subst hk; exact own 4 dD
  | sell hk hp hv=>simp only at hk; subst hk; exact own 4 dD
  | miss hk hp hv=>simp only at hk; subst hk; exact own 5 dD
  | move hk hp hv=>simp only at hk; subst hk; exact own 6 dD
 ·have h0:0≤ay x.t st:=oM
  have per:∀ kd:Int,kd ≠ 1→(1≤pe∧pe≤999)→(∀ W,aQ W W.heap.size x→Calls wH 175 #[x.val,.agg #[O U kd,O U st,O U pe,O U va]] W (dz W (iL x.c ⟨kd,st,pe,va⟩))) →
    Calls wH 127 #[x.val,.agg #[O U kd,O U st,O U pe,O U va]] w (dz w (f9 x.c ⟨kd,st,pe,va⟩)):=fun kd hk ya hP=>by
   rw [show f9 x.c ⟨kd,st,pe,va⟩=((iL x.c ⟨kd,st,pe,va⟩).1,(iL x.c ⟨kd,st,pe,va⟩).2 && (iL x.c ⟨kd,st,pe,va⟩).1.good) from by
    unfold f9; rw [if_neg (show ¬ (df.mk kd st pe va).kind=1 from hk),if_neg (show ¬ ay x.c.t st < 0 from hT),if_neg (show ¬ (df.mk kd st pe va).person=0 from by show ¬ pe=0; omega)]]
   exact qS x kd st pe va _ (by simpa using hk) ya.1 h0 w h G wX hP
  cases hI with
  | get hk hp hv =>
   simp only at hk hp hv xl; subst hk
   exact qR x st pe va xl hv w h G wX
  | show_ hk hp hv=>simp only at hk hp hv xl; subst hk; exact per 2 dD hp fun W hW=>qM x st pe va W hW G wX xl hp hv
  | back hk hp hv=>simp only at hk hp hv xl; subst hk; exact per 3 dD hp fun W hW=>qN x st pe va W hW G wX xl hp hv
  | sell0 hk hp hv =>
   simp only at hk hp hv xl; subst hk; subst hp
   have:=sa x st va xl hv h0 w h G wX
   rw [show f9 x.c ⟨4,st,0,va⟩=((⟨aj x.t st (-va),x.o,x.gt,x.sd+va,x.ms⟩ : Oc),(⟨aj x.t st (-va),x.o,x.gt,x.sd+va,x.ms⟩ : Oc).good) from by
    unfold f9; rw [if_neg (show ¬ (4:Int)=1 by decide),if_neg (show ¬ ay x.c.t st < 0 from hT),if_pos rfl]; rfl]
   exact this
  | sell hk hp hv=>simp only at hk hp hv xl; subst hk; exact per 4 dD hp fun W hW=>qQ x st pe va W hW G wX xl hp hv
  | miss hk hp hv=>simp only at hk hp hv xl; subst hk; exact per 5 dD hp fun W hW=>qO x st pe va W hW G wX xl hp
  | move hk hp hv=>simp only at hk hp hv xl; subst hk; exact per 6 dD hp fun W hW=>qP x st pe va W hW G wX xl hp hv
theorem jx (x:aO) (s:df) (w:World) (h:aQ w w.heap.size x) (wX:x.t.length≤x.tc) :
  Calls wH 76 #[x.val,s.val] w (aF w (if ao x && s.ok then bj x.c s else none)):=by
 have h1:=qK (fun x s w h G hc hs=>qT x s w h G hc hs) x s w h wX
 rw [show (if ao x && s.ok then bj x.c s else none)=(if ao x && s.okS then qH (f9 x.c s) else none) from by
  cases hg:ao x
  ·rfl
  ·cases hs:s.okS
   ·have:=df.ok_okS s
    rw [hs,Bool.false_and] at this
    rw [this]; rfl
   ·rw [Bool.true_and,Bool.true_and,if_pos rfl,qI x s (br.1 hg) hs]]
 exact h1
def gq (y:Oc) (s:df):Option Oc:=if y.good && s.ok then bj y s else none
theorem kg {r r' : Oc} (h:Oc.fin r=some r'):r'.good=true:=by
 unfold Oc.fin at h
 split at h
 ·rename_i hg; injection h with h; rw [← h]; exact hg
 ·cases h
theorem lc {y r:Oc} {s:df} (h:bj y s=some r):r.good=true:=by
 unfold bj at h
 split at h
 ·exact kg h
 split at h
 ·cases h
 split at h
 ·exact kg h
 split at h
 ·cases h
 split at h
 ·exact kg h
 split at h
 ·split at h <;> exact kg h
 split at h <;> exact kg h
theorem Oc.good_off {y:Oc} (h:y.good=true) (TA:Option Addr) (tc:Nat) (OA:Option Addr) (oc:Nat):bK (y.at TA tc OA oc):=by
 have G:bK (y.at none 0 none 0):=br.1 h
 exact ⟨G.tl,G.ol,G.g,G.s,G.m,G.ts,G.os,G.sum⟩
theorem kA {y:Oc} (h:y.good=true):y.t.length≤1000000∧y.o.length≤1000000:=by
 have G:bK (y.at none 0 none 0):=br.1 h
 exact ⟨jT G.tl oM,jT G.ol oM⟩
theorem pk {n:Nat} (h:n < 10):Lib.decDigits n = [UInt8.ofNat (48+n)]:=by rw [Lib.decDigits,dif_pos h]
theorem vL {n:Nat} (h : ¬ n < 10):Lib.decDigits n=Lib.decDigits (n / 10)++[UInt8.ofNat (48+n % 10)]:=by rw [Lib.decDigits,dif_neg h]
theorem nS:∀ {n:Nat},n < 10→(⟨#[48,49,50,51,52,53,54,55,56,57]⟩ : ByteArray).extract n (n+1)=⟨[UInt8.ofNat (48+n)].toArray⟩
 | 0,_=>by decide | 1,_=>by decide | 2,_=>by decide | 3,_=>by decide | 4,_=>by decide
 | 5,_=>by decide | 6,_=>by decide | 7,_=>by decide | 8,_=>by decide | 9,_=>by decide
theorem tA {n:Nat} (h:n≤1000000000):(⟨(Lib.decDigits n).toArray⟩ : ByteArray).size≤100:=by
 show (Lib.decDigits n).toArray.size≤100
 rw [List.size_toArray,Lib.decDigits_length]
 have:=Lib.nDigits_le20 n oM
 omega
theorem t7 (k:Nat):∀ (n:Nat) (w:World),n < 10 ^ k→n≤1000000000 →
  Calls wH 71 #[O U (n:Int)] w fun e w'=>e=.returned (wG ⟨(Lib.decDigits n).toArray⟩)∧Below w.heap.size w w':=by
 induction k with
 | zero =>
  intro n w hn _
  have h0:n=0:=by simpa using hn
  subst h0
  have HD:=jZ (pk (n:=0) oM)
  have HE:=jZ (nS (n:=0) oM)
  go_enter Tryz.func71,Tryz.ntmps71
  go_wp2
  go_ret
  exact ⟨by rw [HD.out,← HE.out]; rfl,Below.refl _ _⟩
 | succ k ih =>
  intro n w hn hb
  by_cases h10:n < 10
  ·have HD:=jZ (pk h10)
   have HE:=jZ (nS h10)
   go_enter Tryz.func71,Tryz.ntmps71
   go_wp2
   go_ret
   exact ⟨by rw [HD.out,← HE.out]; rfl,Below.refl _ _⟩
  ·have HD:=jZ (vL h10)
   have hr:n % 10 < 10:=Nat.mod_lt _ oM
   have HE:=jZ (nS hr)
   have hk:n / 10 < 10 ^ k:=Nat.div_lt_of_lt_mul (by rw [Nat.mul_comm,← Nat.pow_succ]; exact hn)
   obtain ⟨sv,Ij⟩ : ∃ s:ByteArray,s=⟨(Lib.decDigits (n / 10)).toArray⟩:=⟨_,rfl⟩
   obtain ⟨dv,Ik⟩ : ∃ s:ByteArray,s=(⟨#[48,49,50,51,52,53,54,55,56,57]⟩ : ByteArray).extract (n % 10) (n % 10+1):=⟨_,rfl⟩
   have NV:sv.size≤100:=by rw [Ij]; exact tA oM
   have NW:dv.size≤10:=by rw [Ik,HE.out]; exact (by decide:(1:Nat)≤10)
   have ih' : ∀ W:World,Calls wH 71 #[O U ((n:Int) / 10)] W fun e w'=>e=.returned (wG sv)∧Below W.heap.size W w':=fun W=>by
    have:=ih (n / 10) W hk oM
    rw [Int.natCast_ediv] at this; rw [Ij]; exact this
   have IH:=jZ ih'; clear ih' ih
   have zK:=Ik.symm
   have MA:=jZ Ij; clear Ij
   have MB:=jZ Ik; clear Ik
   have e1:(n:Int).tdiv 10=(n:Int) / 10:=Int.tdiv_eq_ediv_of_nonneg oM
   have e2:(n:Int).tmod 10=(n:Int) % 10:=Int.tmod_eq_emod_of_nonneg oM
   go_enter Tryz.func71,Tryz.ntmps71
   go_wp2_with fail
   refine au kZ kZ ?_
   repeat (any_goals (first | go_big_quiet_step ((go_at_call 71; refine aC nR (IH.out _))) | (refine wpQuiet_step (fun K hK=>?_); go_simp; split <;> (refine hK _ ?_; clear hK K))))
   all_goals (refine wpQuiet_nil ?_; rintro _ ⟨q1,rfl⟩)
   go_wp2
   go_ret
   exact ⟨by rw [HD.out,MA.out,MB.out,HE.out,ByteArray.mk_append_mk]; rfl,q1.below⟩
theorem bP (n:Int) (w:World) (h0:0≤n) (h1:n≤1000000000) :
  Calls wH 71 #[O U n] w fun e w'=>e=.returned (wG ⟨(Lib.itoa n).toArray⟩)∧Below w.heap.size w w':=by
 obtain ⟨m,rfl⟩:=Int.eq_ofNat_of_zero_le h0
 have e:Lib.itoa (m:Int)=Lib.decDigits m:=by unfold Lib.itoa; rw [if_neg oM,Int.toNat_natCast]
 have e' : Lib.itoa (Int.ofNat m)=Lib.decDigits m:=e
 first | rw [e] | rw [e']
 exact t7 10 m w oM oM
theorem bD {n:Int} (h0:0≤n) (h1:n≤1000000000):(⟨(Lib.itoa n).toArray⟩ : ByteArray).size≤100:=by
 unfold Lib.itoa
 rw [if_neg oM]
 exact tA oM
set_option maxRecDepth 100000 in
theorem lf (n:Int) (w:World) (h0 : -1000000≤n) (h1:n≤1000000) :
  Calls wH 71 #[O U n] w fun e w'=>∃ s:ByteArray,e=.returned (wG s)∧s.size≤101∧Below w.heap.size w w':=by
 by_cases hn:0≤n
 ·exact (bP n w hn oM).mono fun e w' ⟨he,hb⟩=>⟨_,he,jT (bD hn oM) oM,hb⟩
 ·have hc:=bP (-n) w oM oM
  have hl:(⟨(Lib.itoa (-n)).toArray⟩ : ByteArray).size≤100:=bD oM oM
  obtain ⟨T,hT⟩ : ∃ T:ByteArray,(⟨(Lib.itoa (-n)).toArray⟩ : ByteArray)=T:=⟨_,rfl⟩
  rw [hT] at hc hl
  clear hT
  have HC:=jZ hc
  clear hc
  have wQ:n < 0:=oM
  have hw:IntKind.i64.wrap (-n) = -n:=IntWalk.i64_in _ oM
  have hz:(⟨#[45]⟩ : ByteArray).size=1:=rfl
  go_enter Tryz.func71,Tryz.ntmps71
  go_wp2_with fail
  refine HC.out.mono ?_
  rintro e w1 ⟨rfl,hb⟩
  go_wp2
  go_ret
  exact ⟨_,rfl,by first | (rw [ByteArray.size_append]; omega) | (simp; omega),hb⟩
theorem ai.newB (w:World) (o:Obj) (t:TypeId) (cs:Array Value):ai ((w.alloc o).alloc (.cells cs t)) (w.heap.size+1) t cs.toList:=by
 have h:=ai.new (w.alloc o) t cs
 rwa [show (w.alloc o).heap.size=w.heap.size+1 from Array.size_push _] at h
end Go.Proofs.YtoeoimhemojdeaaGreatDoor
namespace Go.Proofs.YtoeoimhemojdeaaGreatDoor
def cP (b:UInt8):List UInt8→List UInt8
 | []=>[]
 | x :: l=>if x=b then [] else x :: cP b l
theorem lI {b:UInt8} : ∀ {l:List UInt8},b ∉ l→cP b l=l
 | [],_=>rfl
 | x :: l,h=>by
  simp only [List.mem_cons,not_or] at h
  unfold cP; rw [if_neg (Ne.symm h.1),lI h.2]
theorem ez {b:UInt8} {r:List UInt8} : ∀ {t:List UInt8},b ∉ t→cP b (t++b :: r)=t
 | [],_=>by simp [cP]
 | x :: l,h=>by
  simp only [List.mem_cons,not_or] at h
  rw [List.cons_append]; unfold cP; rw [if_neg (Ne.symm h.1),ez h.2]
theorem fG (b:UInt8):∀ l:List UInt8,b ∉ cP b l
 | []=>by simp [cP]
 | x :: l=>by
  unfold cP; split
  ·simp
  ·rename_i h; simp only [List.mem_cons,not_or]; exact ⟨Ne.symm h,fG b l⟩
theorem kh (b:UInt8):∀ l:List UInt8,(b ∉ l∧cP b l=l) ∨ ∃ r,l=cP b l++b :: r
 | []=>.inl ⟨sP,rfl⟩
 | x :: l=>by
  unfold cP
  by_cases h:x=b
  ·rw [if_pos h]; exact .inr ⟨l,by simp [h]⟩
  ·rw [if_neg h]
   rcases kh b l with ⟨h1,h2⟩ | ⟨r,h1⟩
   ·exact .inl ⟨by simp only [List.mem_cons,not_or]; exact ⟨Ne.symm h,h1⟩,by rw [h2]⟩
   ·exact .inr ⟨r,by rw [List.cons_append,← h1]⟩
theorem lJ (b:UInt8) (l:List UInt8):(cP b l).length≤l.length:=by
 rcases kh b l with ⟨_,h⟩ | ⟨r,h⟩
 ·rw [h]; exact Nat.le_refl _
 ·have:=congrArg List.length h; simp at this; omega
theorem ua {b:UInt8} {l:List UInt8} : (cP b l).length=l.length ↔ b ∉ l:=by
 constructor
 ·intro h
  rcases kh b l with ⟨h1,_⟩ | ⟨r,h1⟩
  ·exact h1
  ·have:=congrArg List.length h1; simp at this; omega
 ·intro h; rw [lI h]
theorem nT {b:UInt8} (l:List UInt8):l.take (cP b l).length=cP b l:=by
 rcases kh b l with ⟨_,h⟩ | ⟨r,h⟩
 ·rw [h]; simp
 ·have e:(cP b l++b :: r).take (cP b l).length=cP b l:=List.take_left' rfl
  rwa [← h] at e
theorem dd {b:UInt8} {l:List UInt8} (h:b ∈ l):l=cP b l++b :: l.drop ((cP b l).length+1):=by
 rcases kh b l with ⟨h1,_⟩ | ⟨r,h1⟩
 ·exact absurd h h1
 ·have e:(cP b l++b :: r).drop ((cP b l).length+1)=r:=by
   rw [List.drop_append,List.drop_eq_nil_of_le oM]; simp
  rw [← h1] at e
  rw [e]; exact h1
theorem iM (s:List UInt8) (b:UInt8) (i:Nat):Lib.occAt s [b] i=decide (s[i]?=some b):=by
 unfold Lib.occAt
 rcases Nat.lt_or_ge i s.length with h | h
 ·rw [List.drop_eq_getElem_cons h,List.getElem?_eq_getElem h]
  by_cases e:s[i]=b
  ·subst e; simp [List.isPrefixOf]
  ·simp [List.isPrefixOf,e,Ne.symm e]
 ·rw [List.drop_eq_nil_of_le h,List.getElem?_eq_none h]; rfl
theorem ki {s:List UInt8} {b:UInt8} (h:b ∉ s):Lib.index s [b] = -1 :=
 Lib.index_none fun j _=>by
  rw [iM,decide_eq_false_iff_not]; intro e; exact h (List.mem_of_getElem? e)
theorem kV {t r:List UInt8} {b:UInt8} (h:b ∉ t):Lib.index (t++b :: r) [b]=t.length :=
 Lib.index_first sP (by rw [iM]; simp) fun j hj=>by
  rw [iM,decide_eq_false_iff_not,List.getElem?_append_left hj]; intro e; exact h (List.mem_of_getElem? e)
theorem jy (s:List UInt8) (b:UInt8):(b ∉ s∧Lib.index s [b] = -1) ∨ (b ∈ s∧Lib.index s [b]=(cP b s).length):=by
 rcases kh b s with ⟨h,_⟩ | ⟨r,h⟩
 ·exact .inl ⟨h,ki h⟩
 ·refine .inr ⟨by rw [h]; simp, ?_⟩
  rw (occs:=[1]) [h]; exact kV (fG b s)
theorem pV (s:List UInt8) (b:UInt8):Lib.contains s [b]=s.contains b:=by
 unfold Lib.contains
 rcases jy s b with ⟨h,e⟩ | ⟨h,e⟩
 ·rw [e]; simp [h]
 ·rw [e]; simp [h]
theorem pW {t r:List UInt8} {b:UInt8} (h:b ∉ r):Lib.lastIndex (t++b :: r) [b]=t.length:=by
 unfold Lib.lastIndex
 rw [if_pos (by simp; omega)]
 rcases Lib.lastOcc_spec (t++b :: r) [b] ((t++b :: r).length - [b].length+1) with ⟨_,hn⟩ | ⟨i,hi,e,ho,hn⟩
 ·have:=hn t.length (by simp; omega)
  rw [iM] at this; simp at this
 ·rw [e]
  rw [iM,decide_eq_true_eq] at ho
  rcases Nat.lt_trichotomy i t.length with wQ | zE | Ag
  ·have:=hn t.length wQ (by simp; omega)
   rw [iM] at this; simp at this
  ·rw [zE]
  ·exfalso
   rw [List.getElem?_append_right oM] at ho
   obtain ⟨d,hd⟩ : ∃ d,i - t.length=d+1:=⟨i - t.length - 1,oM⟩
   rw [hd,List.getElem?_cons_succ] at ho
   exact h (List.mem_of_getElem? ho)
theorem qV (s:List UInt8) (b:UInt8):Lib.lastIndex s [b] = -1 ∨ ∃ i:Nat,Lib.lastIndex s [b]=i∧i < s.length∧s[i]?=some b:=by
 unfold Lib.lastIndex
 split
 ·rcases Lib.lastOcc_spec s [b] (s.length - [b].length+1) with ⟨e,_⟩ | ⟨i,hi,e,ho,_⟩
  ·exact .inl e
  ·rw [iM,decide_eq_true_eq] at ho
   exact .inr ⟨i,e,(List.getElem?_eq_some_iff.1 ho).1,ho⟩
 ·exact .inl rfl
theorem mi:∀ (n:Nat) (c:UInt8),c ∈ Lib.decDigits n→48≤c.toNat∧c.toNat≤57:=by
 intro n
 induction n using Nat.strongRecOn with
 | ind n ih =>
  intro c hc
  rw [Lib.decDigits] at hc
  have one:∀ k,k < 10→c=UInt8.ofNat (48+k)→48≤c.toNat∧c.toNat≤57:=by
   intro k hk e
   have:c.toNat=48+k:=by rw [e,UInt8.toNat_ofNat']; omega
   omega
  split at hc
  ·rename_i h; exact one n h (by simpa using hc)
  ·rename_i h
   rcases List.mem_append.1 hc with h1 | h1
   ·exact ih (n / 10) oM c h1
   ·exact one (n % 10) oM (by simpa using h1)
theorem lK (n:Nat):Lib.itoa (n:Int)=Lib.decDigits n:=by unfold Lib.itoa; rw [if_neg oM,Int.toNat_natCast]
theorem ic {n:Nat} {b:UInt8} (h:b.toNat < 48 ∨ 57 < b.toNat):b ∉ Lib.itoa (n:Int):=by
 rw [lK]; intro hb; have:=mi n b hb; omega
theorem pn {n:Nat} (h:n≤9223372036854775807):(Lib.itoa (n:Int)).length≤21:=Lib.itoa_length_le _ oM oM
def ip (c:UInt8):Bool:=decide (32≤c.toNat) && decide (c.toNat≤126) && c != 35
def bE (l:List UInt8):Bool:=l.all ip
theorem nU {l:List UInt8} (h:bE l=true):(35:UInt8) ∉ l:=fun hm=>by
 have:=List.all_eq_true.1 h _ hm; simp [ip] at this
theorem qW {l:List UInt8} (h:bE l=true):(10:UInt8) ∉ l:=fun hm=>by
 have:=List.all_eq_true.1 h _ hm; simp [ip] at this
def eY (c r:List UInt8):Bool:=decide (1≤c.length) && decide (c.length≤160) && bE c && !c.contains 64 && bE r && decide (r.length≤200)
theorem de {c r:List UInt8} : eY c r=true ↔ 1≤c.length∧c.length≤160∧bE c=true∧(64:UInt8) ∉ c∧bE r=true∧r.length≤200:=by
 unfold eY; simp [Bool.and_eq_true,and_assoc]
def gZ:Nat→List UInt8→Nat
 | h,[]=>h
 | h,c :: l=>gZ ((41 * h+c.toNat+1) % 999979) l
theorem nV:∀ (l:List UInt8) (h:Nat),h < 999979→gZ h l < 999979
 | [],_,h=>h
 | _ :: l,_,_=>nV l _ (Nat.mod_lt _ oM)
def jz (l:List UInt8):Nat:=gZ 7 l
theorem pX (l:List UInt8):jz l < 999979:=nV l 7 oM
def eE (t:List UInt8):List UInt8:=t++35 :: Lib.itoa (jz t)
theorem lL (t:List UInt8):(eE t).length≤t.length+22:=by
 have:=pn (n:=jz t) (by have:=pX t; omega)
 unfold eE; simp; omega
theorem gf {t:List UInt8} (h:(35:UInt8) ∉ t):cP 35 (eE t)=t:=ez h
theorem uc (t:List UInt8):Lib.lastIndex (eE t) [35]=t.length:=pW (ic dD)
def eU (k:Nat) (c r:List UInt8):List UInt8:=Lib.itoa (k:Int)++[32]++c++[64]++r
def bT (k:Nat) (c r:List UInt8):List UInt8:=eE (eU k c r)++[10]
theorem gh {k:Nat} {c r:List UInt8} (h:eY c r=true):(35:UInt8) ∉ eU k c r:=by
 obtain ⟨_,_,h1,_,h2,_⟩:=de.1 h
 have a:=ic (n:=k) (b:=35) dD
 have b:=nU h1
 have d:=nU h2
 unfold eU; simp [a,b,d]
theorem nx {k:Nat} {c r:List UInt8} (h:eY c r=true) (hk:k≤9223372036854775807):(eU k c r).length≤383:=by
 obtain ⟨_,h1,_,_,_,h2⟩:=de.1 h
 have:=pn hk
 unfold eU; simp; omega
theorem ji {k:Nat} {c r:List UInt8} (h:eY c r=true) (hk:k≤9223372036854775807):(bT k c r).length≤406:=by
 have:=nx h hk
 have:=lL (eU k c r)
 unfold bT; simp; omega
theorem tB {k:Nat} {c r:List UInt8} (h:eY c r=true):(10:UInt8) ∉ eE (eU k c r):=by
 obtain ⟨_,_,h1,_,h2,_⟩:=de.1 h
 have a:=ic (n:=k) (b:=10) dD
 have a':=ic (n:=jz (eU k c r)) (b:=10) dD
 have b:=qW h1
 have d:=qW h2
 unfold eE
 simp only [List.mem_append,List.mem_cons,not_or]
 refine ⟨?_,dD,a'⟩
 unfold eU; simp [a,b,d]
def uW (k:Nat) (c r s:List UInt8):Prop:=eY c r=true∧eE (eU k c r)=s
theorem uW.inj {k:Nat} {c r c' r' s:List UInt8} (h:uW k c r s) (h' : uW k c' r' s):c=c'∧r=r':=by
 obtain ⟨h1,h2⟩:=h
 obtain ⟨h1',h2'⟩:=h'
 have e:eU k c r=eU k c' r':=by rw [← gf (gh h1),← gf (gh h1'),h2,h2']
 unfold eU at e
 simp only [List.append_assoc] at e
 have e2:=List.append_cancel_left (List.append_cancel_left e)
 obtain ⟨_,_,_,n,_⟩:=de.1 h1
 obtain ⟨_,_,_,n',_⟩:=de.1 h1'
 have a:=ez (r:=r) n
 have a':=ez (r:=r') n'
 have e3:c++64 :: r=c'++64 :: r':=e2
 rw [e3,a'] at a
 subst a
 exact ⟨rfl,by simpa using List.append_cancel_left e3⟩
open Classical in
noncomputable def ed (k:Nat) (s:List UInt8):Option (List UInt8 × List UInt8):=if h:∃ p:List UInt8 × List UInt8,uW k p.1 p.2 s then some h.choose else none
theorem mj {k:Nat} {c r s:List UInt8} (h:uW k c r s):ed k s=some (c,r):=by
 have zK:∃ p:List UInt8 × List UInt8,uW k p.1 p.2 s:=⟨(c,r),h⟩
 unfold ed
 rw [dif_pos zK]
 obtain ⟨e1,e2⟩:=zK.choose_spec.inj h
 exact congrArg some (Prod.ext e1 e2)
theorem fO {k:Nat} {s:List UInt8} (h:∀ c r,¬ uW k c r s):ed k s=none:=by
 unfold ed
 rw [dif_neg (fun ⟨p,hp⟩=>h _ _ hp)]
theorem nW {k:Nat} {c r s:List UInt8} (h:ed k s=some (c,r)):uW k c r s:=by
 by_cases zK:∃ p:List UInt8 × List UInt8,uW k p.1 p.2 s
 ·unfold ed at h
  rw [dif_pos zK] at h
  have:=zK.choose_spec
  rw [Option.some.inj h] at this
  exact this
 ·unfold ed at h
  rw [dif_neg zK] at h; cases h
def qs (t s:List UInt8):Prop:=(35:UInt8) ∉ t∧eE t=s∧t.length≤4000∧s.length≤4000
theorem qs.inj {t t' s:List UInt8} (h:qs t s) (h' : qs t' s):t=t':=by
 rw [← gf h.1,← gf h'.1,h.2.1,h'.2.1]
theorem uW.ver {k:Nat} {c r s:List UInt8} (h:uW k c r s) (hk:k≤9223372036854775807):qs (eU k c r) s:=by
 refine ⟨gh h.1,h.2,by have:=nx h.1 hk; omega, ?_⟩
 rw [← h.2]; have:=nx h.1 hk; have:=lL (eU k c r); omega
theorem se {k:Nat} {s:List UInt8} (hk:k≤9223372036854775807) (h:∀ t,¬ qs t s):ed k s=none:=fO fun _ _ he=>h _ (he.ver hk)
theorem sf {k:Nat} {s t:List UInt8} (hk:k≤9223372036854775807) (hv:qs t s) (h : ¬ (Lib.itoa (k:Int)++[32]) <+: t):ed k s=none:=fO fun c r he=>h (by
 rw [hv.inj (he.ver hk)]
 exact ⟨c++[64]++r,by unfold eU; simp⟩)
theorem ud {k:Nat} {s t u:List UInt8} (hk:k≤9223372036854775807) (hv:qs t s) (ht:t=Lib.itoa (k:Int)++[32]++u) (h:(64:UInt8) ∉ u):ed k s=none:=fO fun c r he=>h (by
 have e:=hv.inj (he.ver hk)
 rw [ht] at e
 unfold eU at e
 simp only [List.append_assoc] at e
 have:=List.append_cancel_left (List.append_cancel_left e)
 rw [this]; simp)
theorem qX {k:Nat} {s t c r:List UInt8} (hk:k≤9223372036854775807) (hv:qs t s) (ht:t=Lib.itoa (k:Int)++[32]++(c++64 :: r)) (hc:(64:UInt8) ∉ c) :
  ed k s=if eY c r=true then some (c,r) else none:=by
 have e0:eU k c r=t:=by rw [ht]; unfold eU; simp
 split
 ·rename_i h; exact mj ⟨h,by rw [e0]; exact hv.2.1⟩
 ·rename_i h
  refine fO fun c' r' he=>h ?_
  have e:=hv.inj (he.ver hk)
  rw [← e0] at e
  unfold eU at e
  simp only [List.append_assoc] at e
  have e2:=List.append_cancel_left (List.append_cancel_left e)
  have e3:c++64 :: r=c'++64 :: r':=e2
  obtain ⟨_,_,_,n',_⟩:=de.1 he.1
  have a:=ez (r:=r) hc
  rw [e3,ez n'] at a
  subst a
  have:r=r':=by simpa using List.append_cancel_left e3
  subst this
  exact he.1
theorem pY {k:Nat} {s:List UInt8} (h : ¬ (Lib.itoa (k:Int)++[32]) <+: cP 35 s):ed k s=none:=fO fun c r he=>h (by
 rw [← he.2,gf (gh he.1)]
 exact ⟨c++[64]++r,by unfold eU; simp⟩)
theorem qY {k:Nat} {s u:List UInt8} (ht:cP 35 s=Lib.itoa (k:Int)++[32]++u) (h:(64:UInt8) ∉ u):ed k s=none:=fO fun c r he=>h (by
 rw [← he.2,gf (gh he.1)] at ht
 unfold eU at ht
 simp only [List.append_assoc] at ht
 have:=List.append_cancel_left (List.append_cancel_left ht)
 rw [← this]; simp)
theorem pZ {k:Nat} {s c r:List UInt8} (ht:cP 35 s=Lib.itoa (k:Int)++[32]++(c++64 :: r)) (hc:(64:UInt8) ∉ c) :
  ed k s=if eY c r=true∧bT k c r=s++[10] then some (c,r) else none:=by
 split
 ·rename_i h; exact mj ⟨h.1,List.append_cancel_right h.2⟩
 ·rename_i h
  refine fO fun c' r' he=>h ?_
  have e:=ht
  rw [← he.2,gf (gh he.1)] at e
  unfold eU at e
  simp only [List.append_assoc] at e
  have e2:=List.append_cancel_left (List.append_cancel_left e)
  have e3:c'++64 :: r'=c++64 :: r:=e2
  obtain ⟨_,_,_,n',_⟩:=de.1 he.1
  have a:=ez (r:=r) hc
  rw [← e3,ez n'] at a
  subst a
  have:r'=r:=by simpa using List.append_cancel_left e3
  subst this
  exact ⟨he.1,by unfold bT; rw [he.2]⟩
noncomputable def aG:Nat→Nat→List UInt8→List ((List UInt8 × List UInt8) × Nat)
 | 0,_,_=>[]
 | n+1,k,s=>if (10:UInt8) ∈ s then
   match ed k (cP 10 s) with
   | none=>[]
   | some e=>(e,(cP 10 s).length+1) :: aG n (k+1) (s.drop ((cP 10 s).length+1))
  else []
def cr (l:List ((List UInt8 × List UInt8) × Nat)):Nat:=(l.map (·.2)).sum
theorem fP (e:(List UInt8 × List UInt8) × Nat) (l:List ((List UInt8 × List UInt8) × Nat)):cr (e :: l)=e.2+cr l:=by simp [cr]
theorem dG {n k:Nat} {s:List UInt8} (h:(10:UInt8) ∉ s):aG n k s = []:=by cases n <;> simp [aG,h]
theorem dJ {n k:Nat} {s:List UInt8} (h:ed k (cP 10 s)=none):aG n k s = []:=by cases n <;> simp [aG,h]
theorem cu {n k:Nat} {s:List UInt8} {e:List UInt8 × List UInt8} (h1:(10:UInt8) ∈ s) (h2:ed k (cP 10 s)=some e) :
  aG (n+1) k s=(e,(cP 10 s).length+1) :: aG n (k+1) (s.drop ((cP 10 s).length+1)):=by simp [aG,h1,h2]
theorem fL:∀ (n k:Nat) (s:List UInt8),cr (aG n k s)≤s.length
 | 0,_,_=>by simp [aG,cr]
 | n+1,k,s=>by
  by_cases h1:(10:UInt8) ∈ s
  ·cases h2:ed k (cP 10 s) with
   | none=>rw [dJ h2]; simp [cr]
   | some e =>
    rw [cu h1 h2,fP]
    have:=fL n (k+1) (s.drop ((cP 10 s).length+1))
    have h3:=congrArg List.length (dd h1)
    simp at this h3
    simp only
    omega
  ·rw [dG h1]; simp [cr]
theorem cW:∀ (n k:Nat) (s:List UInt8),(aG n k s).length≤n
 | 0,_,_=>by simp [aG]
 | n+1,k,s=>by
  by_cases h1:(10:UInt8) ∈ s
  ·cases h2:ed k (cP 10 s) with
   | none=>rw [dJ h2]; simp
   | some e=>rw [cu h1 h2,List.length_cons]; have:=cW n (k+1) (s.drop ((cP 10 s).length+1)); omega
  ·rw [dG h1]; simp
theorem mW:∀ (n k:Nat) (s:List UInt8),n+k≤1000→cr (aG n k s)≤406 * n
 | 0,_,_,_=>by simp [aG,cr]
 | n+1,k,s,h=>by
  by_cases h1:(10:UInt8) ∈ s
  ·cases h2:ed k (cP 10 s) with
   | none=>rw [dJ h2]; simp [cr]
   | some e =>
    rw [cu h1 h2,fP]
    have:=mW n (k+1) (s.drop ((cP 10 s).length+1)) oM
    obtain ⟨c,r⟩:=e
    have he:=nW h2
    have hl:=ji (k:=k) he.1 oM
    unfold bT at hl; rw [he.2] at hl; simp at hl
    simp only
    omega
  ·rw [dG h1]; simp [cr]
def ew:Nat→List ((List UInt8 × List UInt8) × Nat)→List Nat
 | a,[]=>[a]
 | a,e :: l=>a :: ew (a+e.2) l
theorem uX (a:Nat) (l:List ((List UInt8 × List UInt8) × Nat)):ew a l ≠ []:=by cases l <;> simp [ew]
theorem hH:∀ (a:Nat) (l:List ((List UInt8 × List UInt8) × Nat)),(ew a l).length=l.length+1
 | _,[]=>rfl
 | a,_ :: l=>by simp [ew,hH (a+_) l]
theorem nX:∀ (a:Nat) (l:List ((List UInt8 × List UInt8) × Nat)) (e:(List UInt8 × List UInt8) × Nat),ew a (l++[e])=ew a l++[a+cr l+e.2]
 | a,[],e=>by simp [ew,cr]
 | a,x :: l,e=>by simp [ew,nX (a+x.2) l e,fP,Nat.add_assoc]
theorem lg:∀ (a:Nat) (l:List ((List UInt8 × List UInt8) × Nat)),(ew a l)[l.length]?=some (a+cr l)
 | _,[]=>by simp [ew,cr]
 | a,x :: l=>by simp [ew,lg (a+x.2) l,fP,Nat.add_assoc]
theorem qZ:∀ (a:Nat) (l:List ((List UInt8 × List UInt8) × Nat)) (x:Nat),x ∈ ew a l→a≤x
 | a,[],x,h=>by simp [ew] at h; omega
 | a,e :: l,x,h=>by
  simp only [ew,List.mem_cons] at h
  rcases h with h | h
  ·omega
  ·have:=qZ (a+e.2) l x h; omega
theorem q8:∀ (n k a:Nat) (D P:List UInt8),a+D.length ∈ ew a (aG n k (D++P)) ↔ cr (aG n k D)=D.length
 | 0,k,a,D,P=>by simp only [aG,ew,cr,List.map_nil,List.sum_nil,List.mem_singleton]; omega
 | n+1,k,a,D,P=>by
  by_cases hD:D.length=0
  ·have:D = []:=List.eq_nil_of_length_eq_zero hD
   subst this
   rw [dG (s:=[]) sP]
   constructor
   ·intro _; rfl
   ·intro _
    have:ew a (aG (n+1) k ([]++P)) ≠ []:=uX _ _
    cases h:aG (n+1) k ([]++P) <;> simp [ew]
  ·by_cases h1:(10:UInt8) ∈ D
   ·have e1:=dd h1
    have h1' : (10:UInt8) ∈ D++P:=by simp [h1]
    have hb:cP 10 (D++P)=cP 10 D:=by
     rw (occs:=[1]) [e1]
     rw [List.append_assoc,List.cons_append]; exact ez (fG 10 D)
    have wR:(cP 10 D).length+1≤D.length:=by have:=congrArg List.length e1; simp at this; omega
    cases h2:ed k (cP 10 D) with
    | none =>
     rw [dJ (by rw [hb]; exact h2),dJ h2]
     simp only [ew,cr,List.map_nil,List.sum_nil,List.mem_singleton]; omega
    | some e =>
     rw [cu h1' (by rw [hb]; exact h2),cu h1 h2,hb]
     have e2:(D++P).drop ((cP 10 D).length+1)=D.drop ((cP 10 D).length+1)++P:=List.drop_append_of_le_length wR
     rw [e2,fP]
     simp only [ew,List.mem_cons]
     have ih:=q8 n (k+1) (a+((cP 10 D).length+1)) (D.drop ((cP 10 D).length+1)) P
     rw [List.length_drop] at ih
     have e3:a+((cP 10 D).length+1)+(D.length - ((cP 10 D).length+1))=a+D.length:=oM
     rw [e3] at ih
     constructor
     ·rintro (h | h)
      ·omega
      ·have:=ih.1 h; omega
     ·intro h
      exact .inr (ih.2 oM)
   ·rw [dG h1]
    simp only [cr,List.map_nil,List.sum_nil]
    constructor
    ·intro h
     exfalso
     by_cases h3:(10:UInt8) ∈ D++P
     ·cases h2:ed k (cP 10 (D++P)) with
      | none=>rw [dJ h2] at h; simp only [ew,List.mem_singleton] at h; omega
      | some e =>
       rw [cu h3 h2] at h
       simp only [ew,List.mem_cons] at h
       rcases h with h | h
       ·omega
       ·have:=qZ _ _ _ h
        have xq:D.length≤(cP 10 (D++P)).length:=by
         rcases Nat.lt_or_ge (cP 10 (D++P)).length D.length with wQ | xq
         ·exfalso
          have e4:=dd h3
          have h5:(D++P)[(cP 10 (D++P)).length]?=some 10:=by rw (occs:=[1]) [e4]; simp
          rw [List.getElem?_append_left wQ] at h5
          exact h1 (List.mem_of_getElem? h5)
         ·exact xq
        omega
     ·rw [dG h3] at h; simp only [ew,List.mem_singleton] at h; omega
    ·intro h; omega
noncomputable def q9 (D P:List UInt8) (n:Int):Bool :=
 decide (cr (aG 60 0 (D++P))=D.length+P.length) && decide (cr (aG 60 0 D)=D.length) && decide (((aG 60 0 (D++P)).length:Int)=n)
theorem fi {D P:List UInt8} (h:cr (aG 60 0 (D++P))=D.length+P.length):D.length+P.length≤30000:=by
 have:=mW 60 0 (D++P) oM; omega
theorem ce {D P:List UInt8} {n:Int} : q9 D P n=true ↔ cr (aG 60 0 (D++P))=D.length+P.length∧cr (aG 60 0 D)=D.length∧((aG 60 0 (D++P)).length:Int)=n:=by
 unfold q9; simp [Bool.and_eq_true,and_assoc]
theorem sg {D P:List UInt8} {n:Int} : q9 D P n=true ↔ cr (aG 60 0 (D++P))=D.length+P.length∧D.length ∈ ew 0 (aG 60 0 (D++P))∧n=((aG 60 0 (D++P)).length:Int):=by
 have:=q8 60 0 0 D P
 rw [Nat.zero_add] at this
 rw [ce,this]
 constructor <;> (rintro ⟨h1,h2,h3⟩; exact ⟨h1,h2,h3.symm⟩)
end Go.Proofs.YtoeoimhemojdeaaGreatDoor
namespace Go.Proofs.YtoeoimhemojdeaaGreatDoor
open Go.RowKit
def bl (s:ByteArray):List UInt8:=s.data.toList
theorem cE (a b:ByteArray):bl (a++b)=bl a++bl b:=by unfold bl; rw [ByteArray.data_append,Array.toList_append]
theorem bo (l:List UInt8):bl ⟨l.toArray⟩=l:=by simp [bl]
theorem mn (l:Array UInt8):bl ⟨l⟩=l.toList:=rfl
theorem an (s:ByteArray):(bl s).length=s.size:=rfl
theorem ee {s:ByteArray} {l:List UInt8} (h:bl s=l):s=⟨l.toArray⟩:=by
 rw [← h]; simp [bl]
theorem nY {s t:ByteArray} (h:bl s=bl t):s=t:=(ee h).trans (ee rfl).symm
set_option maxRecDepth 10000 in
theorem bg (a b:ByteArray):(a++b).size=a.size+b.size:=by rw [← an (a++b),cE,List.length_append,an,an]
theorem kC {s:ByteArray} {k:Nat} (h:k < s.size):(bl s).drop k=s[k] :: (bl s).drop (k+1):=List.drop_eq_getElem_cons (l:=bl s) h
theorem vM {s:ByteArray} {k:Nat} (h:k < s.size):(bl s).take (k+1)=(bl s).take k++[s[k]]:=List.take_succ_eq_append_getElem (l:=bl s) h
theorem bI (s:ByteArray) (a b:Nat):bl (s.extract a b)=((bl s).take b).drop a:=by
 unfold bl
 rw [Lib.extract_data,List.drop_take]
theorem vW {a b:UInt8} : ((a.toNat:Int) == (b.toNat:Int))=decide (a=b):=by
 rw [Bool.eq_iff_iff]; simp [← UInt8.toNat_inj]; omega
end Go.Proofs.YtoeoimhemojdeaaGreatDoor
namespace Go.Proofs.YtoeoimhemojdeaaGreatDoor
theorem wv (s:ByteArray):s.toList=bl s:=ByteArray.toList_eq s
theorem po {s:ByteArray} (h : ¬ 1≤s.size):s.toList = []:=by rw [wv]; exact List.eq_nil_of_length_eq_zero (by rw [an]; omega)
theorem pq {s:ByteArray} (h:1≤s.size):s.toList ≠ []:=fun e=>by rw [wv] at e; have:=congrArg List.length e; rw [an,List.length_nil] at this; omega
end Go.Proofs.YtoeoimhemojdeaaGreatDoor
namespace Go.Proofs.YtoeoimhemojdeaaGreatDoor
open Go.RowKit
abbrev uY (l:List ByteArray):List Value:=l.map Value.string
theorem kD {w W:World} {g:Nat} {A:Option Addr} {bs:List UInt8} {cap m:Nat} (E:eZ w W g A bs cap m) (b n:Nat) (l:List ByteArray) (hl:l.length=n) (hL:ai W b 9 (uY l)) (wT:b ≠ g) (h0:0 < n) (hn:n≤100000) (hm:m≤900000000) :
  Calls wH 113 #[.pointer (some ⟨g,0,none⟩),F (some ⟨b,0,none⟩) n n] W fun e w'=>∃ x:ByteArray,e=.returned (wG x)∧x ∈ l∧eZ w w' g A bs cap (m+2)∧W.grownBy w' (some g):=by
 go_enter Tryz.func113,Tryz.ntmps113
 go_wp2_with fail
 refine (dF E n hn hm).mono ?_
 rintro e w1 ⟨x,rfl,hx,E1,gr⟩
 have wQ:x < l.length:=oM
 have kc:w1.cell? ⟨b,x,none⟩=some (wG l[x]):=by
  rw [(hL.kept gr (by intro e; injection e with e; exact wT e)).cell]; simp [wQ]
 have Ax:l[x] ∈ l:=List.getElem_mem wQ
 have NX:x < n:=oM
 generalize l[x]=y at kc Ax
 clear hx wQ E
 go_wp2
 go_ret
 exact ⟨y,rfl,Ax,E1,gr⟩
theorem kE (s:ByteArray) (a b:Nat):(s.extract a b).size=min b s.size - a:=ByteArray.size_extract ..
theorem nZ (g:Nat) (A:Option Addr) (cap m:Nat) (bs:List UInt8) (t s:ByteArray) (w W:World) (hs:1≤s.size) (hs' : s.size≤100) (ht:t.size≤100000) (hm:m≤800000000) (E:eZ w W g A bs cap m) :
  Calls wH 65 #[.pointer (some ⟨g,0,none⟩),wG t,wG s] W fun e w'=>∃ x:ByteArray,e=.returned (wG x)∧x.size≤t.size+1∧eZ w w' g A bs cap (m+6)∧W.grownBy w' (some g):=by
 by_cases h0:1≤t.size
 ·have wT:t.toList.isEmpty=false:=List.isEmpty_eq_false_iff.2 (pq h0)
  go_enter Tryz.func65,Tryz.ntmps65
  go_wp2_with fail
  refine (dF E t.size oM oM).mono ?_
  rintro e w1 ⟨i,rfl,hi,E1,gr1⟩
  have hi' : i+1≤t.size:=oM
  clear hi wT
  go_wp2_with fail
  refine (dF E1 s.size oM oM).mono ?_
  rintro e w2 ⟨j,rfl,hj,E2,gr2⟩
  have gr12:=aA gr1 gr2
  have hj' : j+1≤s.size:=oM
  have z1:=kE s j s.size
  clear hj gr1 gr2 E1
  go_wp2_with fail
  have MC:((s.extract j s.size).extract 0 1).size≤1:=by rw [kE]; omega
  generalize (s.extract j s.size).extract 0 1=x at MC ⊢
  refine (dF E2 3 oM oM).mono ?_
  rintro e w3 ⟨k,rfl,hk,E3,gr3⟩
  have gr:=aA gr12 gr3
  have z2:=kE t 0 i
  have z3:=kE t i t.size
  have z4:=kE t (i+1) t.size
  have y1:=bg (t.extract 0 i) x
  have y2:=bg (t.extract 0 i++x) (t.extract i t.size)
  have y3:=bg (t.extract 0 i++x) (t.extract (i+1) t.size)
  have y4:=bg (t.extract 0 i) (t.extract (i+1) t.size)
  have MD:k=0 ∨ k=1 ∨ k=2:=oM
  have HE:=jZ E3
  have HG:=jZ gr
  clear gr12 gr3 E2 E3 gr E hk z1
  rcases MD with rfl | rfl | rfl
  ·go_wp2_with fail
   refine au kZ kZ ?_
   repeat (any_goals (first | go_big_quiet_step ((fail)) | (refine wpQuiet_step (fun K hK=>?_); go_simp; split <;> (refine hK _ ?_; clear hK K))))
   all_goals (refine wpQuiet_nil ?_; rintro _ ⟨q1,rfl⟩)
   go_wp2_with fail
   go_ret
   exact ⟨_,rfl,oM,HE.out.below q1.below,aA HG.out (cn q1.below _)⟩
  ·go_wp2_with fail
   refine au kZ kZ ?_
   repeat (any_goals (first | go_big_quiet_step ((fail)) | (refine wpQuiet_step (fun K hK=>?_); go_simp; split <;> (refine hK _ ?_; clear hK K))))
   all_goals (refine wpQuiet_nil ?_; rintro _ ⟨q1,rfl⟩)
   go_wp2_with fail
   go_ret
   exact ⟨_,rfl,oM,HE.out.below q1.below,aA HG.out (cn q1.below _)⟩
  ·go_wp2_with fail
   refine au kZ kZ ?_
   repeat (any_goals (first | go_big_quiet_step ((fail)) | (refine wpQuiet_step (fun K hK=>?_); go_simp; split <;> (refine hK _ ?_; clear hK K))))
   all_goals (refine wpQuiet_nil ?_; rintro _ ⟨q1,rfl⟩)
   go_wp2_with fail
   go_ret
   exact ⟨_,rfl,oM,HE.out.below q1.below,aA HG.out (cn q1.below _)⟩
 ·have he:t.toList.isEmpty=true:=List.isEmpty_iff.2 (po h0)
  have z1:=kE s 0 1
  go_enter Tryz.func65,Tryz.ntmps65
  go_wp2_with fail
  go_ret
  exact ⟨_,rfl,by rw [z1]; omega,E.mono oM,World.grownBy.refl _ _⟩
end Go.Proofs.YtoeoimhemojdeaaGreatDoor
namespace Go.Proofs
open Go.Shelf
def Tryz.lays137_ren:Go.Shelf.Ren:=⟨fun | 137=>122 | 217=>168 | 266=>193 | n=>n,fun | 9=>9 | 5=>5 | 3=>3 | n=>n,fun | n=>n⟩
theorem Tryz.lays137:Go.Proofs.Lays.n137 wH Tryz.lays137_ren:={
 mixed:=by kernel_rfl
 f137:=Tryz.func122.trans (congrArg some (by kernel_rfl))
 f217:=Tryz.func168.trans (congrArg some (by kernel_rfl))
 f266:=Tryz.func193.trans (congrArg some (by kernel_rfl))
 t3:=Tryz.underlying3
 a3:=Tryz.isAgg3
 z3:=Tryz.sizeOf3
 v3:=Tryz.zeroValue3
 t5:=Tryz.underlying5
 a5:=Tryz.isAgg5
 z5:=Tryz.sizeOf5
 v5:=Tryz.zeroValue5
 t9:=Tryz.underlying9
 a9:=Tryz.isAgg9
 z9:=Tryz.sizeOf9
 v9:=Tryz.zeroValue9 }
open Go.RowKit in
theorem Tryz.strings_IndexByte (s:ByteArray) (c:Int) (w:World) :
  Calls wH 122 #[wG s,.int .u8 c] w fun e w'=>e=.returned (O U (Lib.indexByte s.data.toList c.toNat.toUInt8))∧w'=w:=Any.strings_IndexByte Tryz.lays137 s c w
def Tryz.lays103_ren:Go.Shelf.Ren:=⟨fun | 103=>170 | 210=>195 | 206=>220 | n=>n,fun | 9=>9 | 4=>4 | 24=>64 | 3=>3 | n=>n,fun | n=>n⟩
theorem Tryz.lays103:Go.Proofs.Lays.n103 wH Tryz.lays103_ren:={
 mixed:=by kernel_rfl
 f103:=Tryz.func170.trans (congrArg some (by kernel_rfl))
 f206:=Tryz.func220.trans (congrArg some (by kernel_rfl))
 f210:=Tryz.func195.trans (congrArg some (by kernel_rfl))
 t3:=Tryz.underlying3
 a3:=Tryz.isAgg3
 z3:=Tryz.sizeOf3
 v3:=Tryz.zeroValue3
 t4:=Tryz.underlying4
 a4:=Tryz.isAgg4
 z4:=Tryz.sizeOf4
 v4:=Tryz.zeroValue4
 t9:=Tryz.underlying9
 a9:=Tryz.isAgg9
 z9:=Tryz.sizeOf9
 v9:=Tryz.zeroValue9
 t24:=Tryz.underlying64
 a24:=Tryz.isAgg64
 z24:=Tryz.sizeOf64
 v24:=Tryz.zeroValue64 }
open Go.RowKit in
theorem Tryz.strings_CutPrefix (s p:ByteArray) (w:World) :
  Calls wH 170 #[wG s,wG p] w fun e w'=>e=.returned (.tuple #[wG ⟨(Lib.trimPrefix s.data.toList p.data.toList).toArray⟩,.bool (Lib.hasPrefix s.data.toList p.data.toList)])∧w'=w:=Any.strings_CutPrefix Tryz.lays103 s p w
def Tryz.laysM171_ren:Go.Shelf.Ren:=⟨fun | 171=>69 | 243=>124 | 246=>172 | 283=>197 | 284=>198 | 285=>199 | 286=>200 | 129=>222 | 317=>221 | 318=>223 | 319=>224 | 320=>225 | 337=>239 | 338=>240 | n=>n,fun | 3=>3 | 9=>9 | 2=>2 | 4=>4 | 171=>199 | 0=>0 | 53=>90 | 37=>54 | 5=>5 | 173=>202 | 212=>219 | 51=>220 | 20=>20 | 213=>221 | 46=>181 | 232=>250 | 233=>251 | n=>n,fun | 17=>1 | 18=>6 | 19=>7 | n=>n⟩
theorem Tryz.laysM171:Go.Proofs.LaysM.n171 wH Tryz.laysM171_ren:={
 mixed:=by kernel_rfl
 f129:=Tryz.func222.trans (congrArg some (by kernel_rfl))
 f171:=Tryz.func69.trans (congrArg some (by kernel_rfl))
 f243:=Tryz.func124.trans (congrArg some (by kernel_rfl))
 f246:=Tryz.func172.trans (congrArg some (by kernel_rfl))
 f283:=Tryz.func197.trans (congrArg some (by kernel_rfl))
 f284:=Tryz.func198.trans (congrArg some (by kernel_rfl))
 f285:=Tryz.func199.trans (congrArg some (by kernel_rfl))
 f286:=Tryz.func200.trans (congrArg some (by kernel_rfl))
 f317:=Tryz.func221.trans (congrArg some (by kernel_rfl))
 f318:=Tryz.func223.trans (congrArg some (by kernel_rfl))
 f319:=Tryz.func224.trans (congrArg some (by kernel_rfl))
 f320:=Tryz.func225.trans (congrArg some (by kernel_rfl))
 f337:=Tryz.func239.trans (congrArg some (by kernel_rfl))
 f338:=Tryz.func240.trans (congrArg some (by kernel_rfl))
 t0:=Tryz.underlying0
 a0:=Tryz.isAgg0
 z0:=Tryz.sizeOf0
 v0:=Tryz.zeroValue0
 t2:=Tryz.underlying2
 a2:=Tryz.isAgg2
 z2:=Tryz.sizeOf2
 v2:=Tryz.zeroValue2
 t3:=Tryz.underlying3
 a3:=Tryz.isAgg3
 z3:=Tryz.sizeOf3
 v3:=Tryz.zeroValue3
 t4:=Tryz.underlying4
 a4:=Tryz.isAgg4
 z4:=Tryz.sizeOf4
 v4:=Tryz.zeroValue4
 t5:=Tryz.underlying5
 a5:=Tryz.isAgg5
 z5:=Tryz.sizeOf5
 v5:=Tryz.zeroValue5
 t9:=Tryz.underlying9
 a9:=Tryz.isAgg9
 z9:=Tryz.sizeOf9
 v9:=Tryz.zeroValue9
 t20:=Tryz.underlying20
 a20:=Tryz.isAgg20
 z20:=Tryz.sizeOf20
 v20:=Tryz.zeroValue20
 t37:=Tryz.underlying54
 a37:=Tryz.isAgg54
 z37:=Tryz.sizeOf54
 v37:=Tryz.zeroValue54
 t46:=Tryz.underlying181
 a46:=Tryz.isAgg181
 z46:=Tryz.sizeOf181
 v46:=Tryz.zeroValue181
 t51:=Tryz.underlying220
 a51:=Tryz.isAgg220
 z51:=Tryz.sizeOf220
 v51:=Tryz.zeroValue220
 t53:=Tryz.underlying90
 a53:=Tryz.isAgg90
 z53:=Tryz.sizeOf90
 v53:=Tryz.zeroValue90
 t171:=Tryz.underlying199
 a171:=Tryz.isAgg199
 z171:=Tryz.sizeOf199
 v171:=Tryz.zeroValue199
 t173:=Tryz.underlying202
 a173:=Tryz.isAgg202
 z173:=Tryz.sizeOf202
 v173:=Tryz.zeroValue202
 t212:=Tryz.underlying219
 a212:=Tryz.isAgg219
 z212:=Tryz.sizeOf219
 v212:=Tryz.zeroValue219
 t213:=Tryz.underlying221
 a213:=Tryz.isAgg221
 z213:=Tryz.sizeOf221
 t232:=Tryz.underlying250
 a232:=Tryz.isAgg250
 z232:=Tryz.sizeOf250
 v232:=Tryz.zeroValue250
 t233:=Tryz.underlying251
 a233:=Tryz.isAgg251
 z233:=Tryz.sizeOf251
 v233:=Tryz.zeroValue251
 g17:=by kernel_rfl
 g18:=by kernel_rfl
 g19:=by kernel_rfl
 i0:=by kernel_rfl
 i2:=by kernel_rfl
 i3:=by kernel_rfl
 i4:=by kernel_rfl
 i5:=by kernel_rfl
 i9:=by kernel_rfl
 i20:=by kernel_rfl
 i37:=by kernel_rfl
 i46:=by kernel_rfl
 i51:=by kernel_rfl
 i53:=by kernel_rfl
 i171:=by kernel_rfl
 i173:=by kernel_rfl
 i212:=by kernel_rfl
 i232:=by kernel_rfl
 i233:=by kernel_rfl
 m17:=by kernel_rfl
 m18:=by kernel_rfl
 m19:=by kernel_rfl }
open Go.RowKit Go.Sort Go.Lib in
theorem Tryz.strconv_Itoa (n : Int) (h0 : -9223372036854775808 ≤ n) (h1 : n ≤ 9223372036854775807) (w : World) (Ju : Lib.TabIs wH w "internal/strconv.uint64pow10" .u64 Lib.pow10Tab) :
  Calls wH 69 #[O U n] w fun e w'=>e=.returned (wG ⟨(Lib.itoa n).toArray⟩)∧∃ k os,w'=grow (w.drewN k) os:=Any.strconv_Itoa Tryz.laysM171 n h0 h1 w Ju
def Tryz.laysC172_ren:Go.Shelf.Ren:=⟨fun | 172=>150 | 244=>181 | 245=>182 | 247=>206 | 279=>207 | 280=>208 | 281=>209 | 282=>210 | 287=>227 | 316=>228 | 171=>69 | 205=>229 | 321=>241 | 322=>242 | 243=>124 | 246=>172 | 283=>197 | 284=>198 | 285=>199 | 286=>200 | 129=>222 | 317=>221 | 318=>223 | 319=>224 | 320=>225 | 337=>239 | 338=>240 | n=>n,fun | 9=>9 | 3=>3 | 75=>173 | 76=>174 | 4=>4 | 5=>5 | 167=>206 | 37=>54 | 0=>0 | 85=>207 | 2=>2 | 168=>209 | 53=>90 | 175=>225 | 46=>181 | 210=>228 | 127=>245 | 145=>248 | 143=>246 | 21=>21 | 171=>199 | 173=>202 | 212=>219 | 51=>220 | 20=>20 | 213=>221 | 232=>250 | 233=>251 | 80=>234 | n=>n,fun | 15=>2 | 16=>3 | 17=>1 | 18=>6 | 19=>7 | n=>n⟩
theorem Tryz.laysC172:Go.Proofs.LaysC.n172 wH Tryz.laysC172_ren:={
 mixed:=by kernel_rfl
 f129:=Tryz.func222.trans (congrArg some (by kernel_rfl))
 f171:=Tryz.func69.trans (congrArg some (by kernel_rfl))
 f172:=Tryz.func150.trans (congrArg some (by kernel_rfl))
 f205:=Tryz.func229.trans (congrArg some (by kernel_rfl))
 f243:=Tryz.func124.trans (congrArg some (by kernel_rfl))
 f244:=Tryz.func181.trans (congrArg some (by kernel_rfl))
 f245:=Tryz.func182.trans (congrArg some (by kernel_rfl))
 f246:=Tryz.func172.trans (congrArg some (by kernel_rfl))
 f247:=Tryz.func206.trans (congrArg some (by kernel_rfl))
 f279:=Tryz.func207.trans (congrArg some (by kernel_rfl))
 f280:=Tryz.func208.trans (congrArg some (by kernel_rfl))
 f281:=Tryz.func209.trans (congrArg some (by kernel_rfl))
 f282:=Tryz.func210.trans (congrArg some (by kernel_rfl))
 f283:=Tryz.func197.trans (congrArg some (by kernel_rfl))
 f284:=Tryz.func198.trans (congrArg some (by kernel_rfl))
 f285:=Tryz.func199.trans (congrArg some (by kernel_rfl))
 f286:=Tryz.func200.trans (congrArg some (by kernel_rfl))
 f287:=Tryz.func227.trans (congrArg some (by kernel_rfl))
 f316:=Tryz.func228.trans (congrArg some (by kernel_rfl))
 f317:=Tryz.func221.trans (congrArg some (by kernel_rfl))
 f318:=Tryz.func223.trans (congrArg some (by kernel_rfl))
 f319:=Tryz.func224.trans (congrArg some (by kernel_rfl))
 f320:=Tryz.func225.trans (congrArg some (by kernel_rfl))
 f321:=Tryz.func241.trans (congrArg some (by kernel_rfl))
 f322:=Tryz.func242.trans (congrArg some (by kernel_rfl))
 f337:=Tryz.func239.trans (congrArg some (by kernel_rfl))
 f338:=Tryz.func240.trans (congrArg some (by kernel_rfl))
 t0:=Tryz.underlying0
 a0:=Tryz.isAgg0
 z0:=Tryz.sizeOf0
 v0:=Tryz.zeroValue0
 t2:=Tryz.underlying2
 a2:=Tryz.isAgg2
 z2:=Tryz.sizeOf2
 v2:=Tryz.zeroValue2
 t3:=Tryz.underlying3
 a3:=Tryz.isAgg3
 z3:=Tryz.sizeOf3
 v3:=Tryz.zeroValue3
 t4:=Tryz.underlying4
 a4:=Tryz.isAgg4
 z4:=Tryz.sizeOf4
 v4:=Tryz.zeroValue4
 t5:=Tryz.underlying5
 a5:=Tryz.isAgg5
 z5:=Tryz.sizeOf5
 v5:=Tryz.zeroValue5
 t9:=Tryz.underlying9
 a9:=Tryz.isAgg9
 z9:=Tryz.sizeOf9
 v9:=Tryz.zeroValue9
 t20:=Tryz.underlying20
 a20:=Tryz.isAgg20
 z20:=Tryz.sizeOf20
 v20:=Tryz.zeroValue20
 t21:=Tryz.underlying21
 a21:=Tryz.isAgg21
 z21:=Tryz.sizeOf21
 v21:=Tryz.zeroValue21
 t37:=Tryz.underlying54
 a37:=Tryz.isAgg54
 z37:=Tryz.sizeOf54
 v37:=Tryz.zeroValue54
 t46:=Tryz.underlying181
 a46:=Tryz.isAgg181
 z46:=Tryz.sizeOf181
 v46:=Tryz.zeroValue181
 t51:=Tryz.underlying220
 a51:=Tryz.isAgg220
 z51:=Tryz.sizeOf220
 v51:=Tryz.zeroValue220
 t53:=Tryz.underlying90
 a53:=Tryz.isAgg90
 z53:=Tryz.sizeOf90
 v53:=Tryz.zeroValue90
 t75:=Tryz.underlying173
 a75:=Tryz.isAgg173
 z75:=Tryz.sizeOf173
 v75:=Tryz.zeroValue173
 t76:=Tryz.underlying174
 a76:=Tryz.isAgg174
 z76:=Tryz.sizeOf174
 v76:=Tryz.zeroValue174
 t85:=Tryz.underlying207
 a85:=Tryz.isAgg207
 z85:=Tryz.sizeOf207
 v85:=Tryz.zeroValue207
 t127:=Tryz.underlying245
 a127:=Tryz.isAgg245
 z127:=Tryz.sizeOf245
 v127:=Tryz.zeroValue245
 t143:=Tryz.underlying246
 a143:=Tryz.isAgg246
 z143:=Tryz.sizeOf246
 v143:=Tryz.zeroValue246
 t145:=Tryz.underlying248
 a145:=Tryz.isAgg248
 z145:=Tryz.sizeOf248
 v145:=Tryz.zeroValue248
 t167:=Tryz.underlying206
 a167:=Tryz.isAgg206
 z167:=Tryz.sizeOf206
 v167:=Tryz.zeroValue206
 t168:=Tryz.underlying209
 a168:=Tryz.isAgg209
 z168:=Tryz.sizeOf209
 v168:=Tryz.zeroValue209
 t171:=Tryz.underlying199
 a171:=Tryz.isAgg199
 z171:=Tryz.sizeOf199
 v171:=Tryz.zeroValue199
 t173:=Tryz.underlying202
 a173:=Tryz.isAgg202
 z173:=Tryz.sizeOf202
 v173:=Tryz.zeroValue202
 t175:=Tryz.underlying225
 a175:=Tryz.isAgg225
 z175:=Tryz.sizeOf225
 v175:=Tryz.zeroValue225
 t210:=Tryz.underlying228
 a210:=Tryz.isAgg228
 z210:=Tryz.sizeOf228
 v210:=Tryz.zeroValue228
 t212:=Tryz.underlying219
 a212:=Tryz.isAgg219
 z212:=Tryz.sizeOf219
 v212:=Tryz.zeroValue219
 t213:=Tryz.underlying221
 a213:=Tryz.isAgg221
 z213:=Tryz.sizeOf221
 t232:=Tryz.underlying250
 a232:=Tryz.isAgg250
 z232:=Tryz.sizeOf250
 v232:=Tryz.zeroValue250
 t233:=Tryz.underlying251
 a233:=Tryz.isAgg251
 z233:=Tryz.sizeOf251
 v233:=Tryz.zeroValue251
 g15:=by kernel_rfl
 g16:=by kernel_rfl
 g17:=by kernel_rfl
 g18:=by kernel_rfl
 g19:=by kernel_rfl
 t80:=Tryz.underlying234
 a80:=Tryz.isAgg234
 z80:=Tryz.sizeOf234
 v80:=Tryz.zeroValue234
 i0:=by kernel_rfl
 i2:=by kernel_rfl
 i3:=by kernel_rfl
 i4:=by kernel_rfl
 i5:=by kernel_rfl
 i9:=by kernel_rfl
 i20:=by kernel_rfl
 i21:=by kernel_rfl
 i37:=by kernel_rfl
 i46:=by kernel_rfl
 i51:=by kernel_rfl
 i53:=by kernel_rfl
 i75:=by kernel_rfl
 i76:=by kernel_rfl
 i80:=by kernel_rfl
 i85:=by kernel_rfl
 i127:=by kernel_rfl
 i143:=by kernel_rfl
 i145:=by kernel_rfl
 i167:=by kernel_rfl
 i168:=by kernel_rfl
 i171:=by kernel_rfl
 i173:=by kernel_rfl
 i175:=by kernel_rfl
 i210:=by kernel_rfl
 i212:=by kernel_rfl
 i232:=by kernel_rfl
 i233:=by kernel_rfl
 m15:=by kernel_rfl
 m16:=by kernel_rfl
 m17:=by kernel_rfl
 m18:=by kernel_rfl
 m19:=by kernel_rfl
 c0:=by kernel_rfl
 c2:=by kernel_rfl
 c3:=by kernel_rfl
 c4:=by kernel_rfl
 c5:=by kernel_rfl
 c9:=by kernel_rfl
 c20:=by kernel_rfl
 c21:=by kernel_rfl
 c37:=by kernel_rfl
 c46:=by kernel_rfl
 c51:=by kernel_rfl
 c53:=by kernel_rfl
 c75:=by kernel_rfl
 c76:=by kernel_rfl
 c80:=by kernel_rfl
 c85:=by kernel_rfl
 c127:=by kernel_rfl
 c143:=by kernel_rfl
 c145:=by kernel_rfl
 c167:=by kernel_rfl
 c168:=by kernel_rfl
 c171:=by kernel_rfl
 c173:=by kernel_rfl
 c175:=by kernel_rfl
 c210:=by kernel_rfl
 c212:=by kernel_rfl
 c213:=by kernel_rfl
 c232:=by kernel_rfl
 c233:=by kernel_rfl }
open Go.RowKit in
theorem Tryz.strconv_Atoi_ok (s:ByteArray) (Jv:s.size≤9223372036854775806) (v:Int) (h:Lib.atoiAll s.data.toList=.ok v) (w:World) :
  Calls wH 150 #[wG s] w fun e w'=>e=.returned (.tuple #[O U v,.nilIface])∧(w'=w ∨ ∃ t,w'=Lib.bytesWorld w 5 t):=Any.strconv_Atoi_ok Tryz.laysC172 s Jv v h w
open Go.RowKit in
theorem Tryz.strconv_Atoi_syntax (s:ByteArray) (EK:s.size≤281474976710656) (h:Lib.atoiAll s.data.toList=Lib.atoiAll []) (ev:Value) (w:World) (hv:w.cell? ⟨2,0,none⟩=some ev) (Jw:ev=.nilIface ∨ ∃ te pe,ev=.iface te pe) :
  Calls wH 150 #[wG s] w fun e w'=>∃ N,e=.returned (.tuple #[O U (0),.iface 209 (.pointer (some ⟨N,0,none⟩))])∧w.heap.size≤N∧w'.heap[N]?=some (.cells #[wG ⟨#[65,116,111,105]⟩,wG s,ev] 228 (0,0))∧Below w.heap.size w w':=Any.strconv_Atoi_syntax Tryz.laysC172 s EK (h.trans rfl) ev w hv Jw
open Go.RowKit in
theorem Tryz.strconv_Atoi_range (s:ByteArray) (EK:s.size≤281474976710656) (h:Lib.atoiAll s.data.toList=.range) (ev:Value) (w:World) (hv:w.cell? ⟨3,0,none⟩=some ev) (Jw:ev=.nilIface ∨ ∃ te pe,ev=.iface te pe) :
  Calls wH 150 #[wG s] w fun e w'=>∃ N,e=.returned (.tuple #[O U (Lib.atoiSat s.data.toList),.iface 209 (.pointer (some ⟨N,0,none⟩))])∧w.heap.size≤N∧w'.heap[N]?=some (.cells #[wG ⟨#[65,116,111,105]⟩,wG s,ev] 228 (0,0))∧Below w.heap.size w w':=Any.strconv_Atoi_range Tryz.laysC172 s EK h ev w hv Jw
def Tryz.lays219_ren:Go.Shelf.Ren:=⟨fun | 219=>180 | 217=>168 | 225=>203 | 224=>204 | 267=>205 | 266=>193 | 314=>226 | n=>n,fun | 9=>9 | 3=>3 | 4=>4 | 5=>5 | 46=>181 | 146=>223 | 51=>220 | n=>n,fun | 1=>0 | n=>n⟩
theorem Tryz.lays219:Go.Proofs.Lays.n219 wH Tryz.lays219_ren:={
 mixed:=by kernel_rfl
 f217:=Tryz.func168.trans (congrArg some (by kernel_rfl))
 f219:=Tryz.func180.trans (congrArg some (by kernel_rfl))
 f224:=Tryz.func204.trans (congrArg some (by kernel_rfl))
 f225:=Tryz.func203.trans (congrArg some (by kernel_rfl))
 f266:=Tryz.func193.trans (congrArg some (by kernel_rfl))
 f267:=Tryz.func205.trans (congrArg some (by kernel_rfl))
 f314:=Tryz.func226.trans (congrArg some (by kernel_rfl))
 t3:=Tryz.underlying3
 a3:=Tryz.isAgg3
 z3:=Tryz.sizeOf3
 v3:=Tryz.zeroValue3
 t4:=Tryz.underlying4
 a4:=Tryz.isAgg4
 z4:=Tryz.sizeOf4
 v4:=Tryz.zeroValue4
 t5:=Tryz.underlying5
 a5:=Tryz.isAgg5
 z5:=Tryz.sizeOf5
 v5:=Tryz.zeroValue5
 t9:=Tryz.underlying9
 a9:=Tryz.isAgg9
 z9:=Tryz.sizeOf9
 v9:=Tryz.zeroValue9
 t46:=Tryz.underlying181
 a46:=Tryz.isAgg181
 z46:=Tryz.sizeOf181
 v46:=Tryz.zeroValue181
 t51:=Tryz.underlying220
 a51:=Tryz.isAgg220
 z51:=Tryz.sizeOf220
 v51:=Tryz.zeroValue220
 t146:=Tryz.underlying223
 a146:=Tryz.isAgg223
 z146:=Tryz.sizeOf223
 v146:=Tryz.zeroValue223
 g1:=by kernel_rfl }
open Go.RowKit Go.Lib in
theorem Tryz.stringslite_Index_one (s:ByteArray) (c:UInt8) (w:World) :
  Calls wH 180 #[wG s,wG ⟨#[c]⟩] w fun e w'=>e=.returned (O U (Lib.indexByte s.data.toList c))∧w'=w:=Any.stringslite_Index_one Tryz.lays219 s c w
def Tryz.lays144_ren:Go.Shelf.Ren:=⟨fun | 144=>95 | 143=>149 | 219=>180 | 217=>168 | 225=>203 | 224=>204 | 267=>205 | 266=>193 | 314=>226 | n=>n,fun | 9=>9 | 4=>4 | 3=>3 | 5=>5 | 46=>181 | 146=>223 | 51=>220 | n=>n,fun | 1=>0 | n=>n⟩
theorem Tryz.lays144:Go.Proofs.Lays.n144 wH Tryz.lays144_ren:={
 mixed:=by kernel_rfl
 f143:=Tryz.func149.trans (congrArg some (by kernel_rfl))
 f144:=Tryz.func95.trans (congrArg some (by kernel_rfl))
 f217:=Tryz.func168.trans (congrArg some (by kernel_rfl))
 f219:=Tryz.func180.trans (congrArg some (by kernel_rfl))
 f224:=Tryz.func204.trans (congrArg some (by kernel_rfl))
 f225:=Tryz.func203.trans (congrArg some (by kernel_rfl))
 f266:=Tryz.func193.trans (congrArg some (by kernel_rfl))
 f267:=Tryz.func205.trans (congrArg some (by kernel_rfl))
 f314:=Tryz.func226.trans (congrArg some (by kernel_rfl))
 t3:=Tryz.underlying3
 a3:=Tryz.isAgg3
 z3:=Tryz.sizeOf3
 v3:=Tryz.zeroValue3
 t4:=Tryz.underlying4
 a4:=Tryz.isAgg4
 z4:=Tryz.sizeOf4
 v4:=Tryz.zeroValue4
 t5:=Tryz.underlying5
 a5:=Tryz.isAgg5
 z5:=Tryz.sizeOf5
 v5:=Tryz.zeroValue5
 t9:=Tryz.underlying9
 a9:=Tryz.isAgg9
 z9:=Tryz.sizeOf9
 v9:=Tryz.zeroValue9
 t46:=Tryz.underlying181
 a46:=Tryz.isAgg181
 z46:=Tryz.sizeOf181
 v46:=Tryz.zeroValue181
 t51:=Tryz.underlying220
 a51:=Tryz.isAgg220
 z51:=Tryz.sizeOf220
 v51:=Tryz.zeroValue220
 t146:=Tryz.underlying223
 a146:=Tryz.isAgg223
 z146:=Tryz.sizeOf223
 v146:=Tryz.zeroValue223
 g1:=by kernel_rfl }
open Go.RowKit Go.Lib in
theorem Tryz.strings_Contains_one (s:ByteArray) (c:UInt8) (w:World) :
  Calls wH 95 #[wG s,wG ⟨#[c]⟩] w fun e w'=>e=.returned (.bool (decide (0≤Lib.indexByte s.data.toList c)))∧w'=w:=Any.strings_Contains_one Tryz.lays144 s c w
def Tryz.lays148_ren:Go.Shelf.Ren:=⟨fun | 148=>194 | 222=>218 | 223=>219 | 269=>238 | n=>n,fun | 9=>9 | 3=>3 | 4=>4 | 5=>5 | 146=>223 | 51=>220 | 46=>181 | n=>n,fun | n=>n⟩
theorem Tryz.lays148:Go.Proofs.Lays.n148 wH Tryz.lays148_ren:={
 mixed:=by kernel_rfl
 f148:=Tryz.func194.trans (congrArg some (by kernel_rfl))
 f222:=Tryz.func218.trans (congrArg some (by kernel_rfl))
 f223:=Tryz.func219.trans (congrArg some (by kernel_rfl))
 f269:=Tryz.func238.trans (congrArg some (by kernel_rfl))
 t3:=Tryz.underlying3
 a3:=Tryz.isAgg3
 z3:=Tryz.sizeOf3
 v3:=Tryz.zeroValue3
 t4:=Tryz.underlying4
 a4:=Tryz.isAgg4
 z4:=Tryz.sizeOf4
 v4:=Tryz.zeroValue4
 t5:=Tryz.underlying5
 a5:=Tryz.isAgg5
 z5:=Tryz.sizeOf5
 v5:=Tryz.zeroValue5
 t9:=Tryz.underlying9
 a9:=Tryz.isAgg9
 z9:=Tryz.sizeOf9
 v9:=Tryz.zeroValue9
 t46:=Tryz.underlying181
 a46:=Tryz.isAgg181
 z46:=Tryz.sizeOf181
 v46:=Tryz.zeroValue181
 t51:=Tryz.underlying220
 a51:=Tryz.isAgg220
 z51:=Tryz.sizeOf220
 v51:=Tryz.zeroValue220
 t146:=Tryz.underlying223
 a146:=Tryz.isAgg223
 z146:=Tryz.sizeOf223
 v146:=Tryz.zeroValue223 }
open Go.RowKit Go.Lib in
theorem Tryz.strings_LastIndex (s sub:ByteArray) (hs:s.size < 4611686018427387904) (w:World) :
  Calls wH 194 #[wG s,wG sub] w fun e w'=>e=.returned (O U (Lib.lastIndex s.data.toList sub.data.toList))∧w'=w:=Any.strings_LastIndex Tryz.lays148 s sub hs w
def Tryz.lays146_ren:Go.Shelf.Ren:=⟨fun | 146=>59 | 221=>107 | 268=>161 | 138=>162 | 143=>149 | 195=>188 | 197=>189 | 218=>190 | 219=>180 | 260=>217 | 217=>168 | 225=>203 | 224=>204 | 267=>205 | 266=>193 | 314=>226 | n=>n,fun | 9=>9 | 31=>49 | 3=>3 | 4=>4 | 0=>0 | 105=>195 | 21=>21 | 5=>5 | 46=>181 | 119=>239 | 139=>242 | 138=>241 | 146=>223 | 51=>220 | n=>n,fun | 1=>0 | 3=>4 | 4=>5 | n=>n⟩
theorem Tryz.lays146:Go.Proofs.Lays.n146 wH Tryz.lays146_ren:={
 mixed:=by kernel_rfl
 f138:=Tryz.func162.trans (congrArg some (by kernel_rfl))
 f143:=Tryz.func149.trans (congrArg some (by kernel_rfl))
 f146:=Tryz.func59.trans (congrArg some (by kernel_rfl))
 f195:=Tryz.func188.trans (congrArg some (by kernel_rfl))
 f197:=Tryz.func189.trans (congrArg some (by kernel_rfl))
 f217:=Tryz.func168.trans (congrArg some (by kernel_rfl))
 f218:=Tryz.func190.trans (congrArg some (by kernel_rfl))
 f219:=Tryz.func180.trans (congrArg some (by kernel_rfl))
 f221:=Tryz.func107.trans (congrArg some (by kernel_rfl))
 f224:=Tryz.func204.trans (congrArg some (by kernel_rfl))
 f225:=Tryz.func203.trans (congrArg some (by kernel_rfl))
 f260:=Tryz.func217.trans (congrArg some (by kernel_rfl))
 f266:=Tryz.func193.trans (congrArg some (by kernel_rfl))
 f267:=Tryz.func205.trans (congrArg some (by kernel_rfl))
 f268:=Tryz.func161.trans (congrArg some (by kernel_rfl))
 f314:=Tryz.func226.trans (congrArg some (by kernel_rfl))
 t0:=Tryz.underlying0
 a0:=Tryz.isAgg0
 z0:=Tryz.sizeOf0
 v0:=Tryz.zeroValue0
 t3:=Tryz.underlying3
 a3:=Tryz.isAgg3
 z3:=Tryz.sizeOf3
 v3:=Tryz.zeroValue3
 t4:=Tryz.underlying4
 a4:=Tryz.isAgg4
 z4:=Tryz.sizeOf4
 v4:=Tryz.zeroValue4
 t5:=Tryz.underlying5
 a5:=Tryz.isAgg5
 z5:=Tryz.sizeOf5
 v5:=Tryz.zeroValue5
 t9:=Tryz.underlying9
 a9:=Tryz.isAgg9
 z9:=Tryz.sizeOf9
 v9:=Tryz.zeroValue9
 t21:=Tryz.underlying21
 a21:=Tryz.isAgg21
 z21:=Tryz.sizeOf21
 v21:=Tryz.zeroValue21
 t31:=Tryz.underlying49
 a31:=Tryz.isAgg49
 z31:=Tryz.sizeOf49
 v31:=Tryz.zeroValue49
 t46:=Tryz.underlying181
 a46:=Tryz.isAgg181
 z46:=Tryz.sizeOf181
 v46:=Tryz.zeroValue181
 t51:=Tryz.underlying220
 a51:=Tryz.isAgg220
 z51:=Tryz.sizeOf220
 v51:=Tryz.zeroValue220
 t105:=Tryz.underlying195
 a105:=Tryz.isAgg195
 z105:=Tryz.sizeOf195
 v105:=Tryz.zeroValue195
 t119:=Tryz.underlying239
 a119:=Tryz.isAgg239
 z119:=Tryz.sizeOf239
 t138:=Tryz.underlying241
 a138:=Tryz.isAgg241
 z138:=Tryz.sizeOf241
 v138:=Tryz.zeroValue241
 t139:=Tryz.underlying242
 a139:=Tryz.isAgg242
 z139:=Tryz.sizeOf242
 v139:=Tryz.zeroValue242
 t146:=Tryz.underlying223
 a146:=Tryz.isAgg223
 z146:=Tryz.sizeOf223
 v146:=Tryz.zeroValue223
 g1:=by kernel_rfl
 g3:=by kernel_rfl
 g4:=by kernel_rfl }
open Go.RowKit Go.Lib in
theorem Tryz.strings_Split (s sep:ByteArray) (m:Int) (w:World) (hs:s.size < 4294967281) (hm:w.cell? ⟨0,0,none⟩=some (O U m)) (h1:1≤sep.size) :
  Calls wH 59 #[wG s,wG sep] w fun e w' =>
   e=.returned (F (some ⟨w.heap.size,0,none⟩) (Lib.countB s sep+1) (Lib.countB s sep+1))∧w'=w.alloc (.cells ((Lib.splitB sep 0 (Lib.countB s sep) s).map Value.string).toArray 9):=Any.strings_Split Tryz.lays146 (by kernel_rfl) s sep m w hs hm h1
def Tryz.lays107_ren:Go.Shelf.Ren:=⟨fun | 107=>78 | 108=>129 | n=>n,fun | 28=>100 | 3=>3 | 4=>4 | 0=>0 | n=>n,fun | n=>n⟩
theorem Tryz.lays107:Go.Proofs.Lays.n107 wH Tryz.lays107_ren:={
 mixed:=by kernel_rfl
 f107:=Tryz.func78.trans (congrArg some (by kernel_rfl))
 f108:=Tryz.func129.trans (congrArg some (by kernel_rfl))
 t0:=Tryz.underlying0
 a0:=Tryz.isAgg0
 z0:=Tryz.sizeOf0
 v0:=Tryz.zeroValue0
 t3:=Tryz.underlying3
 a3:=Tryz.isAgg3
 z3:=Tryz.sizeOf3
 v3:=Tryz.zeroValue3
 t4:=Tryz.underlying4
 a4:=Tryz.isAgg4
 z4:=Tryz.sizeOf4
 v4:=Tryz.zeroValue4
 t28:=Tryz.underlying100
 a28:=Tryz.isAgg100
 z28:=Tryz.sizeOf100
 v28:=Tryz.zeroValue100 }
open Go.Lib in
theorem Tryz.slices_Contains_int (b off n c:Nat) (zs:List Int) (x:Int) (w:World) (hz:n≤zs.length) (AK:n≤9223372036854775807) (hc:∀ j,j < zs.length→w.cell? ⟨b,off+j,none⟩=some (O U (zs.getD j 0))) :
  Calls wH 78 #[F (some ⟨b,off,none⟩) n c,O U x] w fun e w'=>e=.returned (.bool ((zs.take n).contains x))∧w'=w:=Any.slices_Contains_int Tryz.lays107 b off n c zs x w hz AK hc
end Go.Proofs
namespace Go.Proofs.YtoeoimhemojdeaaGreatDoor
open Go.RowKit
theorem si (w:World) (k:Nat) (os:Array Obj):Below w.heap.size w (Sort.grow (w.drewN k) os):=by
 have h1:Below w.heap.size w (w.drewN k):=below_drewN jB k
 refine h1.trans ⟨rfl,rfl,rfl,by simp [Sort.grow],fun i hi=>?_⟩
 have hs:(w.drewN k).heap=w.heap:=sP
 simp only [Sort.grow]
 rw [Array.getElem?_append_left (by rw [hs]; exact hi)]
abbrev hQ (w : World) : Prop := Lib.TabBelow wH w.heap.size w "internal/strconv.uint64pow10" .u64 Lib.pow10Tab
theorem hQ.is {w : World} (h : hQ w) : Lib.TabIs wH w "internal/strconv.uint64pow10" .u64 Lib.pow10Tab := h w (Below.refl _ _)
theorem hQ.then {w w' : World} (h:hQ w) (hb:Below w.heap.size w w'):hQ w':=fun w'' h''=>h w'' (hb.trans (h''.mono hb.size))
theorem hQ.at {w:World} (h:hQ w) (q:ap w.heap.size w):hQ q.val:=h.then q.below
theorem cq (n:Int) (w:World) (h0 : -9223372036854775808≤n) (h1:n≤9223372036854775807) (ht:hQ w) :
  Calls wH 69 #[O U n] w fun e w'=>e=.returned (wG ⟨(Lib.itoa n).toArray⟩)∧Below w.heap.size w w' :=
 (Tryz.strconv_Itoa n h0 h1 w ht.is).mono fun e w' ⟨he,k,os,hw⟩=>⟨he,by rw [hw]; exact si w k os⟩
end Go.Proofs.YtoeoimhemojdeaaGreatDoor
namespace Go.Proofs.YtoeoimhemojdeaaGreatDoor
def dH (b:UInt8):List UInt8→List UInt8→List (List UInt8)
 | cur,[]=>[cur]
 | cur,x :: l=>if x=b then cur :: dH b [] l else dH b (cur++[x]) l
def aI (b:UInt8) (s:List UInt8):List (List UInt8):=dH b [] s
theorem n9 {b:UInt8} : ∀ {l cur:List UInt8},b ∉ l→dH b cur l = [cur++l]
 | [],_,_=>by simp [dH]
 | x :: l,cur,h=>by
  simp only [List.mem_cons,not_or] at h
  rw [dH,if_neg (Ne.symm h.1),n9 h.2]; simp
theorem pv {b:UInt8} {r:List UInt8} : ∀ {t cur:List UInt8},b ∉ t→dH b cur (t++b :: r)=(cur++t) :: dH b [] r
 | [],_,_=>by simp [dH]
 | x :: t,cur,h=>by
  simp only [List.mem_cons,not_or] at h
  rw [List.cons_append,dH,if_neg (Ne.symm h.1),pv h.2]; simp
theorem jC {b:UInt8} {l:List UInt8} (h:b ∉ l):aI b l = [l]:=by unfold aI; rw [n9 h]; rfl
theorem pw {b:UInt8} {t r:List UInt8} (h:b ∉ t):aI b (t++b :: r)=t :: aI b r:=by unfold aI; rw [pv h]; rfl
theorem lO (b:UInt8):∀ (l cur:List UInt8),dH b cur l ≠ []
 | [],_=>by simp [dH]
 | x :: l,cur=>by
  unfold dH; split
  ·simp
  ·exact lO b l _
theorem gC (b:UInt8):∀ (l cur:List UInt8),(dH b cur l).length≤l.length+1
 | [],_=>by simp [dH]
 | x :: l,cur=>by
  unfold dH; split
  ·have:=gC b l []; simp; omega
  ·have:=gC b l (cur++[x]); simp; omega
theorem mr {b:UInt8} {t:List UInt8} : ∀ (l cur:List UInt8),t ∈ dH b cur l→t.length≤cur.length+l.length
 | [],cur,h=>by simp only [dH,List.mem_singleton] at h; subst h; simp
 | x :: l,cur,h=>by
  unfold dH at h; split at h
  ·rcases List.mem_cons.1 h with h | h
   ·subst h; omega
   ·have:=mr l [] h; simp at this ⊢; omega
  ·have:=mr l _ h; simp at this ⊢; omega
theorem gD (b:UInt8) (s:List UInt8):∃ ps,aI b s=cP b s :: ps∧(ps = [] ↔ b ∉ s):=by
 rcases kh b s with ⟨h1,h2⟩ | ⟨r,h⟩
 ·exact ⟨[],by rw [jC h1,h2],by simp [h1]⟩
 ·refine ⟨aI b r, ?_, ?_⟩
  ·have h1:=pw (r:=r) (fG b s)
   rw [← h] at h1; exact h1
  ·constructor
   ·intro e; exact absurd e (lO b r [])
   ·intro hn; exact absurd (by rw [h]; simp) hn
end Go.Proofs.YtoeoimhemojdeaaGreatDoor
namespace Go.Proofs.YtoeoimhemojdeaaGreatDoor
open Go.RowKit
def gy (n:Int):Oc:=if cg n 1 9999 then ⟨[⟨1,n⟩],[],n,0,0⟩ else Oc.zero
end Go.Proofs.YtoeoimhemojdeaaGreatDoor
