/- Lemmas. -/
import Derived.Test.YtoeoimhemojdeaaGreatDoorProg
import Derived.Lib.ItoaNum
import Derived.Lib.ItoaLen
import Derived.Lib.IndexLaws
import Derived.Lib.LastIndexLaws
import Derived.Lib.IndexMore
import Derived.Shelf.LaysM
import Derived.Shelf.LaysC
import Derived.Shelf.Strconv.Itoa3
import Derived.Shelf.Strconv.AtoiAll
import Derived.Shelf.Small.Wraps
import Derived.Shelf.Small.Strs
import Derived.Shelf.Strings.Search3
import Derived.Shelf.Strings.LastIndexAll
import Derived.Shelf.Strings.Prefix
import Derived.Shelf.Strings.Split
import Derived.Shelf.Slices.Turned
import Derived.WalkSmall
import Derived.Lib.AppendIntMem
import Derived.Test.YtoeoimhemojdeaaGreatDoorFc22
import Derived.Test.YtoeoimhemojdeaaGreatDoorFc23
import Derived.Test.YtoeoimhemojdeaaGreatDoorFc24
import Derived.Test.YtoeoimhemojdeaaGreatDoorFc25

set_option linter.unusedVariables false
set_option linter.unusedSimpArgs false
set_option maxHeartbeats 8000000
open Go.Value renaming int → O, slice → F, string → vw
open Go.IntKind renaming i64 → U
open Go.Proofs.Tryz renaming prog → vx

namespace Go.Proofs.YtoeoimhemojdeaaGreatDoor
open Go.RowKit
theorem qf (x:aO) (kd st pe va:Int) (R:Oc × Bool) (hk:(kd == 1)=false) (wV:1≤pe) (ht:0≤ax x.t st) (w:World) (h:aP w w.heap.size x) (G:bH x) (vM:x.t.length≤x.tc)
  (hP:∀ W,aP W W.heap.size x→Calls vx 175 #[x.val,.agg #[O U kd,O U st,O U pe,O U va]] W (dp W R)) :
  Calls vx 127 #[x.val,.agg #[O U kd,O U st,O U pe,O U va]] w (dp w (R.1,R.2 && R.1.good)):=by
 obtain ⟨r,b⟩:=R
 cases b
 ·rw [Bool.false_and]; exact ni x kd st pe va r hk wV ht w h G vM hP
 ·rw [Bool.true_and]; exact mO x kd st pe va r hk wV ht w h G vM hP
theorem qg (x:aO) (s:cU) (w:World) (h:aP w w.heap.size x) (G:bH x) (vM:x.t.length≤x.tc) (hs:s.okS=true) :
  Calls vx 127 #[x.val,s.val] w (dp w (fS x.c s)):=by
 obtain ⟨vX,hI⟩:=cU.okS_is hs
 clear hs
 obtain ⟨kd,st,pe,va⟩:=s
 by_cases hT:ax x.t st < 0
 ·have own:∀ kd:Int,kd ≠ 1→Calls vx 127 #[x.val,.agg #[O U kd,O U st,O U pe,O U va]] w (dp w (fS x.c ⟨kd,st,pe,va⟩)):=fun kd hk=>by
   rw [show fS x.c ⟨kd,st,pe,va⟩=(x.c,false) from by
    unfold fS; rw [if_neg (show ¬ (cU.mk kd st pe va).kind=1 from hk),if_pos (show ax x.c.t st < 0 from hT)]]
   exact tZ x kd st pe va (by simpa using hk) hT w h G vM
  cases hI with
  | get hk hp hv =>
   simp only at hk hp hv vX; subst hk
   exact qe x st pe va vX hv w h G vM
  | show_ hk hp hv=>simp only at hk; subst hk; exact own 2 dD
  | back hk hp hv=>simp only at hk; subst hk; exact own 3 dD
  | sell0 hk hp hv=>simp only at hk; subst hk; exact own 4 dD
  | sell hk hp hv=>simp only at hk; subst hk; exact own 4 dD
  | miss hk hp hv=>simp only at hk; subst hk; exact own 5 dD
  | move hk hp hv=>simp only at hk; subst hk; exact own 6 dD
 ·have h0:0≤ax x.t st:=oM
  have per:∀ kd:Int,kd ≠ 1→(1≤pe∧pe≤999)→(∀ W,aP W W.heap.size x→Calls vx 175 #[x.val,.agg #[O U kd,O U st,O U pe,O U va]] W (dp W (iA x.c ⟨kd,st,pe,va⟩))) →
    Calls vx 127 #[x.val,.agg #[O U kd,O U st,O U pe,O U va]] w (dp w (fS x.c ⟨kd,st,pe,va⟩)):=fun kd hk wV hP=>by
   rw [show fS x.c ⟨kd,st,pe,va⟩=((iA x.c ⟨kd,st,pe,va⟩).1,(iA x.c ⟨kd,st,pe,va⟩).2 && (iA x.c ⟨kd,st,pe,va⟩).1.good) from by
    unfold fS; rw [if_neg (show ¬ (cU.mk kd st pe va).kind=1 from hk),if_neg (show ¬ ax x.c.t st < 0 from hT),if_neg (show ¬ (cU.mk kd st pe va).person=0 from by show ¬ pe=0; omega)]]
   exact qf x kd st pe va _ (by simpa using hk) wV.1 h0 w h G vM hP
  cases hI with
  | get hk hp hv =>
   simp only at hk hp hv vX; subst hk
   exact qe x st pe va vX hv w h G vM
  | show_ hk hp hv=>simp only at hk hp hv vX; subst hk; exact per 2 dD hp fun W hW=>pZ x st pe va W hW G vM vX hp hv
  | back hk hp hv=>simp only at hk hp hv vX; subst hk; exact per 3 dD hp fun W hW=>p9 x st pe va W hW G vM vX hp hv
  | sell0 hk hp hv =>
   simp only at hk hp hv vX; subst hk; subst hp
   have:=ri x st va vX hv h0 w h G vM
   rw [show fS x.c ⟨4,st,0,va⟩=((⟨aj x.t st (-va),x.o,x.gt,x.sd+va,x.ms⟩ : Oc),(⟨aj x.t st (-va),x.o,x.gt,x.sd+va,x.ms⟩ : Oc).good) from by
    unfold fS; rw [if_neg (show ¬ (4:Int)=1 by decide),if_neg (show ¬ ax x.c.t st < 0 from hT),if_pos rfl]; rfl]
   exact this
  | sell hk hp hv=>simp only at hk hp hv vX; subst hk; exact per 4 dD hp fun W hW=>qd x st pe va W hW G vM vX hp hv
  | miss hk hp hv=>simp only at hk hp hv vX; subst hk; exact per 5 dD hp fun W hW=>qa x st pe va W hW G vM vX hp
  | move hk hp hv=>simp only at hk hp hv vX; subst hk; exact per 6 dD hp fun W hW=>qc x st pe va W hW G vM vX hp hv
theorem jj (x:aO) (s:cU) (w:World) (h:aP w w.heap.size x) (vM:x.t.length≤x.tc) :
  Calls vx 76 #[x.val,s.val] w (aE w (if an x && s.ok then bf x.c s else none)):=by
 have h1:=pX (fun x s w h G hc hs=>qg x s w h G hc hs) x s w h vM
 rw [show (if an x && s.ok then bf x.c s else none)=(if an x && s.okS then pU (fS x.c s) else none) from by
  cases hg:an x
  ·rfl
  ·cases hs:s.okS
   ·have:=cU.ok_okS s
    rw [hs,Bool.false_and] at this
    rw [this]; rfl
   ·rw [Bool.true_and,Bool.true_and,if_pos rfl,pV x s (bi.1 hg) hs]]
 exact h1
def fY (y:Oc) (s:cU):Option Oc:=if y.good && s.ok then bf y s else none
theorem jK {r r' : Oc} (h:Oc.fin r=some r'):r'.good=true:=by
 unfold Oc.fin at h
 split at h
 ·rename_i hg; injection h with h; rw [← h]; exact hg
 ·cases h
theorem kC {y r:Oc} {s:cU} (h:bf y s=some r):r.good=true:=by
 unfold bf at h
 split at h
 ·exact jK h
 split at h
 ·cases h
 split at h
 ·exact jK h
 split at h
 ·cases h
 split at h
 ·exact jK h
 split at h
 ·split at h <;> exact jK h
 split at h <;> exact jK h
theorem Oc.good_off {y:Oc} (h:y.good=true) (TA:Option Addr) (tc:Nat) (OA:Option Addr) (oc:Nat):bH (y.at TA tc OA oc):=by
 have G:bH (y.at none 0 none 0):=bi.1 h
 exact ⟨G.tl,G.ol,G.g,G.s,G.m,G.ts,G.os,G.sum⟩
theorem j9 {y:Oc} (h:y.good=true):y.t.length≤1000000∧y.o.length≤1000000:=by
 have G:bH (y.at none 0 none 0):=bi.1 h
 exact ⟨jT G.tl oM,jT G.ol oM⟩
theorem oD {n:Nat} (h:n < 10):Lib.decDigits n = [UInt8.ofNat (48+n)]:=by rw [Lib.decDigits,dif_pos h]
theorem uG {n:Nat} (h : ¬ n < 10):Lib.decDigits n=Lib.decDigits (n / 10)++[UInt8.ofNat (48+n % 10)]:=by rw [Lib.decDigits,dif_neg h]
theorem nk:∀ {n:Nat},n < 10→(⟨#[48,49,50,51,52,53,54,55,56,57]⟩ : ByteArray).extract n (n+1)=⟨[UInt8.ofNat (48+n)].toArray⟩
 | 0,_=>by decide | 1,_=>by decide | 2,_=>by decide | 3,_=>by decide | 4,_=>by decide
 | 5,_=>by decide | 6,_=>by decide | 7,_=>by decide | 8,_=>by decide | 9,_=>by decide
theorem si {n:Nat} (h:n≤1000000000):(⟨(Lib.decDigits n).toArray⟩ : ByteArray).size≤100:=by
 show (Lib.decDigits n).toArray.size≤100
 rw [List.size_toArray,Lib.decDigits_length]
 have:=Lib.nDigits_le20 n oM
 omega
theorem sK (k:Nat):∀ (n:Nat) (w:World),n < 10 ^ k→n≤1000000000 →
  Calls vx 71 #[O U (n:Int)] w fun e w'=>e=.returned (vw ⟨(Lib.decDigits n).toArray⟩)∧Below w.heap.size w w':=by
 induction k with
 | zero =>
  intro n w hn _
  have h0:n=0:=by simpa using hn
  subst h0
  have HD:=jZ (oD (n:=0) oM)
  have HE:=jZ (nk (n:=0) oM)
  go_enter Tryz.func71,Tryz.ntmps71
  go_wp2
  go_ret
  exact ⟨by rw [HD.out,← HE.out]; rfl,Below.refl _ _⟩
 | succ k ih =>
  intro n w hn hb
  by_cases h10:n < 10
  ·have HD:=jZ (oD h10)
   have HE:=jZ (nk h10)
   go_enter Tryz.func71,Tryz.ntmps71
   go_wp2
   go_ret
   exact ⟨by rw [HD.out,← HE.out]; rfl,Below.refl _ _⟩
  ·have HD:=jZ (uG h10)
   have hr:n % 10 < 10:=Nat.mod_lt _ oM
   have HE:=jZ (nk hr)
   have hk:n / 10 < 10 ^ k:=Nat.div_lt_of_lt_mul (by rw [Nat.mul_comm,← Nat.pow_succ]; exact hn)
   obtain ⟨sv,Gl⟩ : ∃ s:ByteArray,s=⟨(Lib.decDigits (n / 10)).toArray⟩:=⟨_,rfl⟩
   obtain ⟨dv,Gm⟩ : ∃ s:ByteArray,s=(⟨#[48,49,50,51,52,53,54,55,56,57]⟩ : ByteArray).extract (n % 10) (n % 10+1):=⟨_,rfl⟩
   have LF:sv.size≤100:=by rw [Gl]; exact si oM
   have LG:dv.size≤10:=by rw [Gm,HE.out]; exact (by decide:(1:Nat)≤10)
   have ih' : ∀ W:World,Calls vx 71 #[O U ((n:Int) / 10)] W fun e w'=>e=.returned (vw sv)∧Below W.heap.size W w':=fun W=>by
    have:=ih (n / 10) W hk oM
    rw [Int.natCast_ediv] at this; rw [Gl]; exact this
   have IH:=jZ ih'; clear ih' ih
   have yC:=Gm.symm
   have Kl:=jZ Gl; clear Gl
   have Km:=jZ Gm; clear Gm
   have e1:(n:Int).tdiv 10=(n:Int) / 10:=Int.tdiv_eq_ediv_of_nonneg oM
   have e2:(n:Int).tmod 10=(n:Int) % 10:=Int.tmod_eq_emod_of_nonneg oM
   go_enter Tryz.func71,Tryz.ntmps71
   go_wp2_with fail
   refine ar kZ kZ ?_
   repeat (any_goals (first | go_big_quiet_step ((go_at_call 71; refine aQ nR (IH.out _))) | (refine wpQuiet_step (fun K hK=>?_); go_simp; split <;> (refine hK _ ?_; clear hK K))))
   all_goals (refine wpQuiet_nil ?_; rintro _ ⟨q1,rfl⟩)
   go_wp2
   go_ret
   exact ⟨by rw [HD.out,Kl.out,Km.out,HE.out,ByteArray.mk_append_mk]; rfl,q1.below⟩
theorem cn (n:Int) (w:World) (h0:0≤n) (h1:n≤1000000000) :
  Calls vx 71 #[O U n] w fun e w'=>e=.returned (vw ⟨(Lib.itoa n).toArray⟩)∧Below w.heap.size w w':=by
 obtain ⟨m,rfl⟩:=Int.eq_ofNat_of_zero_le h0
 have e:Lib.itoa (m:Int)=Lib.decDigits m:=by unfold Lib.itoa; rw [if_neg oM,Int.toNat_natCast]
 have e' : Lib.itoa (Int.ofNat m)=Lib.decDigits m:=e
 first | rw [e] | rw [e']
 exact sK 10 m w oM oM
theorem cE {n:Int} (h0:0≤n) (h1:n≤1000000000):(⟨(Lib.itoa n).toArray⟩ : ByteArray).size≤100:=by
 unfold Lib.itoa
 rw [if_neg oM]
 exact si oM
set_option maxRecDepth 100000 in
theorem kD (n:Int) (w:World) (h0 : -1000000≤n) (h1:n≤1000000) :
  Calls vx 71 #[O U n] w fun e w'=>∃ s:ByteArray,e=.returned (vw s)∧s.size≤101∧Below w.heap.size w w':=by
 by_cases hn:0≤n
 ·exact (cn n w hn oM).mono fun e w' ⟨he,hb⟩=>⟨_,he,jT (cE hn oM) oM,hb⟩
 ·have hc:=cn (-n) w oM oM
  have hl:(⟨(Lib.itoa (-n)).toArray⟩ : ByteArray).size≤100:=cE oM oM
  obtain ⟨T,hT⟩ : ∃ T:ByteArray,(⟨(Lib.itoa (-n)).toArray⟩ : ByteArray)=T:=⟨_,rfl⟩
  rw [hT] at hc hl
  clear hT
  have HC:=jZ hc
  clear hc
  have vH:n < 0:=oM
  have hw:IntKind.i64.wrap (-n) = -n:=IntWalk.i64_in _ oM
  have hz:(⟨#[45]⟩ : ByteArray).size=1:=rfl
  go_enter Tryz.func71,Tryz.ntmps71
  go_wp2_with fail
  refine HC.out.mono ?_
  rintro e w1 ⟨rfl,hb⟩
  go_wp2
  go_ret
  exact ⟨_,rfl,by first | (rw [ByteArray.size_append]; omega) | (simp; omega),hb⟩
theorem ah.newB (w:World) (o:Obj) (t:TypeId) (cs:Array Value):ah ((w.alloc o).alloc (.cells cs t)) (w.heap.size+1) t cs.toList:=by
 have h:=ah.new (w.alloc o) t cs
 rwa [show (w.alloc o).heap.size=w.heap.size+1 from Array.size_push _] at h
end Go.Proofs.YtoeoimhemojdeaaGreatDoor
namespace Go.Proofs.YtoeoimhemojdeaaGreatDoor
def cw (b:UInt8):List UInt8→List UInt8
 | []=>[]
 | x :: l=>if x=b then [] else x :: cw b l
theorem lh {b:UInt8} : ∀ {l:List UInt8},b ∉ l→cw b l=l
 | [],_=>rfl
 | x :: l,h=>by
  simp only [List.mem_cons,not_or] at h
  unfold cw; rw [if_neg (Ne.symm h.1),lh h.2]
theorem er {b:UInt8} {r:List UInt8} : ∀ {t:List UInt8},b ∉ t→cw b (t++b :: r)=t
 | [],_=>by simp [cw]
 | x :: l,h=>by
  simp only [List.mem_cons,not_or] at h
  rw [List.cons_append]; unfold cw; rw [if_neg (Ne.symm h.1),er h.2]
theorem fy (b:UInt8):∀ l:List UInt8,b ∉ cw b l
 | []=>by simp [cw]
 | x :: l=>by
  unfold cw; split
  ·simp
  ·rename_i h; simp only [List.mem_cons,not_or]; exact ⟨Ne.symm h,fy b l⟩
theorem jM (b:UInt8):∀ l:List UInt8,(b ∉ l∧cw b l=l) ∨ ∃ r,l=cw b l++b :: r
 | []=>.inl ⟨sP,rfl⟩
 | x :: l=>by
  unfold cw
  by_cases h:x=b
  ·rw [if_pos h]; exact .inr ⟨l,by simp [h]⟩
  ·rw [if_neg h]
   rcases jM b l with ⟨h1,h2⟩ | ⟨r,h1⟩
   ·exact .inl ⟨by simp only [List.mem_cons,not_or]; exact ⟨Ne.symm h,h1⟩,by rw [h2]⟩
   ·exact .inr ⟨r,by rw [List.cons_append,← h1]⟩
theorem li (b:UInt8) (l:List UInt8):(cw b l).length≤l.length:=by
 rcases jM b l with ⟨_,h⟩ | ⟨r,h⟩
 ·rw [h]; exact Nat.le_refl _
 ·have:=congrArg List.length h; simp at this; omega
theorem sL {b:UInt8} {l:List UInt8} : (cw b l).length=l.length ↔ b ∉ l:=by
 constructor
 ·intro h
  rcases jM b l with ⟨h1,_⟩ | ⟨r,h1⟩
  ·exact h1
  ·have:=congrArg List.length h1; simp at this; omega
 ·intro h; rw [lh h]
theorem nl {b:UInt8} (l:List UInt8):l.take (cw b l).length=cw b l:=by
 rcases jM b l with ⟨_,h⟩ | ⟨r,h⟩
 ·rw [h]; simp
 ·have e:(cw b l++b :: r).take (cw b l).length=cw b l:=List.take_left' rfl
  rwa [← h] at e
theorem cP {b:UInt8} {l:List UInt8} (h:b ∈ l):l=cw b l++b :: l.drop ((cw b l).length+1):=by
 rcases jM b l with ⟨h1,_⟩ | ⟨r,h1⟩
 ·exact absurd h h1
 ·have e:(cw b l++b :: r).drop ((cw b l).length+1)=r:=by
   rw [List.drop_append,List.drop_eq_nil_of_le oM]; simp
  rw [← h1] at e
  rw [e]; exact h1
theorem iB (s:List UInt8) (b:UInt8) (i:Nat):Lib.occAt s [b] i=decide (s[i]?=some b):=by
 unfold Lib.occAt
 rcases Nat.lt_or_ge i s.length with h | h
 ·rw [List.drop_eq_getElem_cons h,List.getElem?_eq_getElem h]
  by_cases e:s[i]=b
  ·subst e; simp [List.isPrefixOf]
  ·simp [List.isPrefixOf,e,Ne.symm e]
 ·rw [List.drop_eq_nil_of_le h,List.getElem?_eq_none h]; rfl
theorem jN {s:List UInt8} {b:UInt8} (h:b ∉ s):Lib.index s [b] = -1 :=
 Lib.index_none fun j _=>by
  rw [iB,decide_eq_false_iff_not]; intro e; exact h (List.mem_of_getElem? e)
theorem kz {t r:List UInt8} {b:UInt8} (h:b ∉ t):Lib.index (t++b :: r) [b]=t.length :=
 Lib.index_first sP (by rw [iB]; simp) fun j hj=>by
  rw [iB,decide_eq_false_iff_not,List.getElem?_append_left hj]; intro e; exact h (List.mem_of_getElem? e)
theorem jk (s:List UInt8) (b:UInt8):(b ∉ s∧Lib.index s [b] = -1) ∨ (b ∈ s∧Lib.index s [b]=(cw b s).length):=by
 rcases jM b s with ⟨h,_⟩ | ⟨r,h⟩
 ·exact .inl ⟨h,jN h⟩
 ·refine .inr ⟨by rw [h]; simp, ?_⟩
  rw (occs:=[1]) [h]; exact kz (fy b s)
theorem pf (s:List UInt8) (b:UInt8):Lib.contains s [b]=s.contains b:=by
 unfold Lib.contains
 rcases jk s b with ⟨h,e⟩ | ⟨h,e⟩
 ·rw [e]; simp [h]
 ·rw [e]; simp [h]
theorem pg {t r:List UInt8} {b:UInt8} (h:b ∉ r):Lib.lastIndex (t++b :: r) [b]=t.length:=by
 unfold Lib.lastIndex
 rw [if_pos (by simp; omega)]
 rcases Lib.lastOcc_spec (t++b :: r) [b] ((t++b :: r).length - [b].length+1) with ⟨_,hn⟩ | ⟨i,hi,e,ho,hn⟩
 ·have:=hn t.length (by simp; omega)
  rw [iB] at this; simp at this
 ·rw [e]
  rw [iB,decide_eq_true_eq] at ho
  rcases Nat.lt_trichotomy i t.length with vH | yv | yW
  ·have:=hn t.length vH (by simp; omega)
   rw [iB] at this; simp at this
  ·rw [yv]
  ·exfalso
   rw [List.getElem?_append_right oM] at ho
   obtain ⟨d,hd⟩ : ∃ d,i - t.length=d+1:=⟨i - t.length - 1,oM⟩
   rw [hd,List.getElem?_cons_succ] at ho
   exact h (List.mem_of_getElem? ho)
theorem qi (s:List UInt8) (b:UInt8):Lib.lastIndex s [b] = -1 ∨ ∃ i:Nat,Lib.lastIndex s [b]=i∧i < s.length∧s[i]?=some b:=by
 unfold Lib.lastIndex
 split
 ·rcases Lib.lastOcc_spec s [b] (s.length - [b].length+1) with ⟨e,_⟩ | ⟨i,hi,e,ho,_⟩
  ·exact .inl e
  ·rw [iB,decide_eq_true_eq] at ho
   exact .inr ⟨i,e,(List.getElem?_eq_some_iff.1 ho).1,ho⟩
 ·exact .inl rfl
theorem lK:∀ (n:Nat) (c:UInt8),c ∈ Lib.decDigits n→48≤c.toNat∧c.toNat≤57:=by
 intro n
 induction n using Nat.strongRecOn with
 | ind n ih =>
  intro c hc
  rw [Lib.decDigits] at hc
  have one:∀ k,k < 10→c=UInt8.ofNat (48+k)→48≤c.toNat∧c.toNat≤57:=by
   intro k hk e
   have:c.toNat=48+k:=by rw [e,UInt8.toNat_ofNat']; omega
   omega
  split at hc
  ·rename_i h; exact one n h (by simpa using hc)
  ·rename_i h
   rcases List.mem_append.1 hc with h1 | h1
   ·exact ih (n / 10) oM c h1
   ·exact one (n % 10) oM (by simpa using h1)
theorem lj (n:Nat):Lib.itoa (n:Int)=Lib.decDigits n:=by unfold Lib.itoa; rw [if_neg oM,Int.toNat_natCast]
theorem gU {n:Nat} {b:UInt8} (h:b.toNat < 48 ∨ 57 < b.toNat):b ∉ Lib.itoa (n:Int):=by
 rw [lj]; intro hb; have:=lK n b hb; omega
theorem oE {n:Nat} (h:n≤9223372036854775807):(Lib.itoa (n:Int)).length≤21:=Lib.itoa_length_le _ oM oM
def ib (c:UInt8):Bool:=decide (32≤c.toNat) && decide (c.toNat≤126) && c != 35
def bB (l:List UInt8):Bool:=l.all ib
theorem nn {l:List UInt8} (h:bB l=true):(35:UInt8) ∉ l:=fun hm=>by
 have:=List.all_eq_true.1 h _ hm; simp [ib] at this
theorem qj {l:List UInt8} (h:bB l=true):(10:UInt8) ∉ l:=fun hm=>by
 have:=List.all_eq_true.1 h _ hm; simp [ib] at this
def eN (c r:List UInt8):Bool:=decide (1≤c.length) && decide (c.length≤160) && bB c && !c.contains 64 && bB r && decide (r.length≤200)
theorem cQ {c r:List UInt8} : eN c r=true ↔ 1≤c.length∧c.length≤160∧bB c=true∧(64:UInt8) ∉ c∧bB r=true∧r.length≤200:=by
 unfold eN; simp [Bool.and_eq_true,and_assoc]
def gL:Nat→List UInt8→Nat
 | h,[]=>h
 | h,c :: l=>gL ((41 * h+c.toNat+1) % 999979) l
theorem np:∀ (l:List UInt8) (h:Nat),h < 999979→gL h l < 999979
 | [],_,h=>h
 | _ :: l,_,_=>np l _ (Nat.mod_lt _ oM)
def jl (l:List UInt8):Nat:=gL 7 l
theorem ph (l:List UInt8):jl l < 999979:=np l 7 oM
def ez (t:List UInt8):List UInt8:=t++35 :: Lib.itoa (jl t)
theorem lk (t:List UInt8):(ez t).length≤t.length+22:=by
 have:=oE (n:=jl t) (by have:=ph t; omega)
 unfold ez; simp; omega
theorem fT {t:List UInt8} (h:(35:UInt8) ∉ t):cw 35 (ez t)=t:=er h
theorem sM (t:List UInt8):Lib.lastIndex (ez t) [35]=t.length:=pg (gU dD)
def eK (k:Nat) (c r:List UInt8):List UInt8:=Lib.itoa (k:Int)++[32]++c++[64]++r
def bO (k:Nat) (c r:List UInt8):List UInt8:=ez (eK k c r)++[10]
theorem fU {k:Nat} {c r:List UInt8} (h:eN c r=true):(35:UInt8) ∉ eK k c r:=by
 obtain ⟨_,_,h1,_,h2,_⟩:=cQ.1 h
 have a:=gU (n:=k) (b:=35) dD
 have b:=nn h1
 have d:=nn h2
 unfold eK; simp [a,b,d]
theorem mX {k:Nat} {c r:List UInt8} (h:eN c r=true) (hk:k≤9223372036854775807):(eK k c r).length≤383:=by
 obtain ⟨_,h1,_,_,_,h2⟩:=cQ.1 h
 have:=oE hk
 unfold eK; simp; omega
theorem iV {k:Nat} {c r:List UInt8} (h:eN c r=true) (hk:k≤9223372036854775807):(bO k c r).length≤406:=by
 have:=mX h hk
 have:=lk (eK k c r)
 unfold bO; simp; omega
theorem sj {k:Nat} {c r:List UInt8} (h:eN c r=true):(10:UInt8) ∉ ez (eK k c r):=by
 obtain ⟨_,_,h1,_,h2,_⟩:=cQ.1 h
 have a:=gU (n:=k) (b:=10) dD
 have a':=gU (n:=jl (eK k c r)) (b:=10) dD
 have b:=qj h1
 have d:=qj h2
 unfold ez
 simp only [List.mem_append,List.mem_cons,not_or]
 refine ⟨?_,dD,a'⟩
 unfold eK; simp [a,b,d]
def t6 (k:Nat) (c r s:List UInt8):Prop:=eN c r=true∧ez (eK k c r)=s
theorem t6.inj {k:Nat} {c r c' r' s:List UInt8} (h:t6 k c r s) (h' : t6 k c' r' s):c=c'∧r=r':=by
 obtain ⟨h1,h2⟩:=h
 obtain ⟨h1',h2'⟩:=h'
 have e:eK k c r=eK k c' r':=by rw [← fT (fU h1),← fT (fU h1'),h2,h2']
 unfold eK at e
 simp only [List.append_assoc] at e
 have e2:=List.append_cancel_left (List.append_cancel_left e)
 obtain ⟨_,_,_,n,_⟩:=cQ.1 h1
 obtain ⟨_,_,_,n',_⟩:=cQ.1 h1'
 have a:=er (r:=r) n
 have a':=er (r:=r') n'
 have e3:c++64 :: r=c'++64 :: r':=e2
 rw [e3,a'] at a
 subst a
 exact ⟨rfl,by simpa using List.append_cancel_left e3⟩
open Classical in
noncomputable def dU (k:Nat) (s:List UInt8):Option (List UInt8 × List UInt8):=if h:∃ p:List UInt8 × List UInt8,t6 k p.1 p.2 s then some h.choose else none
theorem lL {k:Nat} {c r s:List UInt8} (h:t6 k c r s):dU k s=some (c,r):=by
 have yC:∃ p:List UInt8 × List UInt8,t6 k p.1 p.2 s:=⟨(c,r),h⟩
 unfold dU
 rw [dif_pos yC]
 obtain ⟨e1,e2⟩:=yC.choose_spec.inj h
 exact congrArg some (Prod.ext e1 e2)
theorem fG {k:Nat} {s:List UInt8} (h:∀ c r,¬ t6 k c r s):dU k s=none:=by
 unfold dU
 rw [dif_neg (fun ⟨p,hp⟩=>h _ _ hp)]
theorem nr {k:Nat} {c r s:List UInt8} (h:dU k s=some (c,r)):t6 k c r s:=by
 by_cases yC:∃ p:List UInt8 × List UInt8,t6 k p.1 p.2 s
 ·unfold dU at h
  rw [dif_pos yC] at h
  have:=yC.choose_spec
  rw [Option.some.inj h] at this
  exact this
 ·unfold dU at h
  rw [dif_neg yC] at h; cases h
def pG (t s:List UInt8):Prop:=(35:UInt8) ∉ t∧ez t=s∧t.length≤4000∧s.length≤4000
theorem pG.inj {t t' s:List UInt8} (h:pG t s) (h' : pG t' s):t=t':=by
 rw [← fT h.1,← fT h'.1,h.2.1,h'.2.1]
theorem t6.ver {k:Nat} {c r s:List UInt8} (h:t6 k c r s) (hk:k≤9223372036854775807):pG (eK k c r) s:=by
 refine ⟨fU h.1,h.2,by have:=mX h.1 hk; omega, ?_⟩
 rw [← h.2]; have:=mX h.1 hk; have:=lk (eK k c r); omega
theorem rk {k:Nat} {s:List UInt8} (hk:k≤9223372036854775807) (h:∀ t,¬ pG t s):dU k s=none:=fG fun _ _ he=>h _ (he.ver hk)
theorem rl {k:Nat} {s t:List UInt8} (hk:k≤9223372036854775807) (hv:pG t s) (h : ¬ (Lib.itoa (k:Int)++[32]) <+: t):dU k s=none:=fG fun c r he=>h (by
 rw [hv.inj (he.ver hk)]
 exact ⟨c++[64]++r,by unfold eK; simp⟩)
theorem sN {k:Nat} {s t u:List UInt8} (hk:k≤9223372036854775807) (hv:pG t s) (ht:t=Lib.itoa (k:Int)++[32]++u) (h:(64:UInt8) ∉ u):dU k s=none:=fG fun c r he=>h (by
 have e:=hv.inj (he.ver hk)
 rw [ht] at e
 unfold eK at e
 simp only [List.append_assoc] at e
 have:=List.append_cancel_left (List.append_cancel_left e)
 rw [this]; simp)
theorem ql {k:Nat} {s t c r:List UInt8} (hk:k≤9223372036854775807) (hv:pG t s) (ht:t=Lib.itoa (k:Int)++[32]++(c++64 :: r)) (hc:(64:UInt8) ∉ c) :
  dU k s=if eN c r=true then some (c,r) else none:=by
 have e0:eK k c r=t:=by rw [ht]; unfold eK; simp
 split
 ·rename_i h; exact lL ⟨h,by rw [e0]; exact hv.2.1⟩
 ·rename_i h
  refine fG fun c' r' he=>h ?_
  have e:=hv.inj (he.ver hk)
  rw [← e0] at e
  unfold eK at e
  simp only [List.append_assoc] at e
  have e2:=List.append_cancel_left (List.append_cancel_left e)
  have e3:c++64 :: r=c'++64 :: r':=e2
  obtain ⟨_,_,_,n',_⟩:=cQ.1 he.1
  have a:=er (r:=r) hc
  rw [e3,er n'] at a
  subst a
  have:r=r':=by simpa using List.append_cancel_left e3
  subst this
  exact he.1
theorem pi {k:Nat} {s:List UInt8} (h : ¬ (Lib.itoa (k:Int)++[32]) <+: cw 35 s):dU k s=none:=fG fun c r he=>h (by
 rw [← he.2,fT (fU he.1)]
 exact ⟨c++[64]++r,by unfold eK; simp⟩)
theorem qm {k:Nat} {s u:List UInt8} (ht:cw 35 s=Lib.itoa (k:Int)++[32]++u) (h:(64:UInt8) ∉ u):dU k s=none:=fG fun c r he=>h (by
 rw [← he.2,fT (fU he.1)] at ht
 unfold eK at ht
 simp only [List.append_assoc] at ht
 have:=List.append_cancel_left (List.append_cancel_left ht)
 rw [← this]; simp)
theorem pj {k:Nat} {s c r:List UInt8} (ht:cw 35 s=Lib.itoa (k:Int)++[32]++(c++64 :: r)) (hc:(64:UInt8) ∉ c) :
  dU k s=if eN c r=true∧bO k c r=s++[10] then some (c,r) else none:=by
 split
 ·rename_i h; exact lL ⟨h.1,List.append_cancel_right h.2⟩
 ·rename_i h
  refine fG fun c' r' he=>h ?_
  have e:=ht
  rw [← he.2,fT (fU he.1)] at e
  unfold eK at e
  simp only [List.append_assoc] at e
  have e2:=List.append_cancel_left (List.append_cancel_left e)
  have e3:c'++64 :: r'=c++64 :: r:=e2
  obtain ⟨_,_,_,n',_⟩:=cQ.1 he.1
  have a:=er (r:=r) hc
  rw [← e3,er n'] at a
  subst a
  have:r'=r:=by simpa using List.append_cancel_left e3
  subst this
  exact ⟨he.1,by unfold bO; rw [he.2]⟩
noncomputable def aF:Nat→Nat→List UInt8→List ((List UInt8 × List UInt8) × Nat)
 | 0,_,_=>[]
 | n+1,k,s=>if (10:UInt8) ∈ s then
   match dU k (cw 10 s) with
   | none=>[]
   | some e=>(e,(cw 10 s).length+1) :: aF n (k+1) (s.drop ((cw 10 s).length+1))
  else []
def ci (l:List ((List UInt8 × List UInt8) × Nat)):Nat:=(l.map (·.2)).sum
theorem fH (e:(List UInt8 × List UInt8) × Nat) (l:List ((List UInt8 × List UInt8) × Nat)):ci (e :: l)=e.2+ci l:=by simp [ci]
theorem du {n k:Nat} {s:List UInt8} (h:(10:UInt8) ∉ s):aF n k s = []:=by cases n <;> simp [aF,h]
theorem dz {n k:Nat} {s:List UInt8} (h:dU k (cw 10 s)=none):aF n k s = []:=by cases n <;> simp [aF,h]
theorem cj {n k:Nat} {s:List UInt8} {e:List UInt8 × List UInt8} (h1:(10:UInt8) ∈ s) (h2:dU k (cw 10 s)=some e) :
  aF (n+1) k s=(e,(cw 10 s).length+1) :: aF n (k+1) (s.drop ((cw 10 s).length+1)):=by simp [aF,h1,h2]
theorem fD:∀ (n k:Nat) (s:List UInt8),ci (aF n k s)≤s.length
 | 0,_,_=>by simp [aF,ci]
 | n+1,k,s=>by
  by_cases h1:(10:UInt8) ∈ s
  ·cases h2:dU k (cw 10 s) with
   | none=>rw [dz h2]; simp [ci]
   | some e =>
    rw [cj h1 h2,fH]
    have:=fD n (k+1) (s.drop ((cw 10 s).length+1))
    have h3:=congrArg List.length (cP h1)
    simp at this h3
    simp only
    omega
  ·rw [du h1]; simp [ci]
theorem cF:∀ (n k:Nat) (s:List UInt8),(aF n k s).length≤n
 | 0,_,_=>by simp [aF]
 | n+1,k,s=>by
  by_cases h1:(10:UInt8) ∈ s
  ·cases h2:dU k (cw 10 s) with
   | none=>rw [dz h2]; simp
   | some e=>rw [cj h1 h2,List.length_cons]; have:=cF n (k+1) (s.drop ((cw 10 s).length+1)); omega
  ·rw [du h1]; simp
theorem mv:∀ (n k:Nat) (s:List UInt8),n+k≤1000→ci (aF n k s)≤406 * n
 | 0,_,_,_=>by simp [aF,ci]
 | n+1,k,s,h=>by
  by_cases h1:(10:UInt8) ∈ s
  ·cases h2:dU k (cw 10 s) with
   | none=>rw [dz h2]; simp [ci]
   | some e =>
    rw [cj h1 h2,fH]
    have:=mv n (k+1) (s.drop ((cw 10 s).length+1)) oM
    obtain ⟨c,r⟩:=e
    have he:=nr h2
    have hl:=iV (k:=k) he.1 oM
    unfold bO at hl; rw [he.2] at hl; simp at hl
    simp only
    omega
  ·rw [du h1]; simp [ci]
def ei:Nat→List ((List UInt8 × List UInt8) × Nat)→List Nat
 | a,[]=>[a]
 | a,e :: l=>a :: ei (a+e.2) l
theorem t7 (a:Nat) (l:List ((List UInt8 × List UInt8) × Nat)):ei a l ≠ []:=by cases l <;> simp [ei]
theorem gM:∀ (a:Nat) (l:List ((List UInt8 × List UInt8) × Nat)),(ei a l).length=l.length+1
 | _,[]=>rfl
 | a,_ :: l=>by simp [ei,gM (a+_) l]
theorem nu:∀ (a:Nat) (l:List ((List UInt8 × List UInt8) × Nat)) (e:(List UInt8 × List UInt8) × Nat),ei a (l++[e])=ei a l++[a+ci l+e.2]
 | a,[],e=>by simp [ei,ci]
 | a,x :: l,e=>by simp [ei,nu (a+x.2) l e,fH,Nat.add_assoc]
theorem kE:∀ (a:Nat) (l:List ((List UInt8 × List UInt8) × Nat)),(ei a l)[l.length]?=some (a+ci l)
 | _,[]=>by simp [ei,ci]
 | a,x :: l=>by simp [ei,kE (a+x.2) l,fH,Nat.add_assoc]
theorem qn:∀ (a:Nat) (l:List ((List UInt8 × List UInt8) × Nat)) (x:Nat),x ∈ ei a l→a≤x
 | a,[],x,h=>by simp [ei] at h; omega
 | a,e :: l,x,h=>by
  simp only [ei,List.mem_cons] at h
  rcases h with h | h
  ·omega
  ·have:=qn (a+e.2) l x h; omega
theorem qo:∀ (n k a:Nat) (D P:List UInt8),a+D.length ∈ ei a (aF n k (D++P)) ↔ ci (aF n k D)=D.length
 | 0,k,a,D,P=>by simp only [aF,ei,ci,List.map_nil,List.sum_nil,List.mem_singleton]; omega
 | n+1,k,a,D,P=>by
  by_cases hD:D.length=0
  ·have:D = []:=List.eq_nil_of_length_eq_zero hD
   subst this
   rw [du (s:=[]) sP]
   constructor
   ·intro _; rfl
   ·intro _
    have:ei a (aF (n+1) k ([]++P)) ≠ []:=t7 _ _
    cases h:aF (n+1) k ([]++P) <;> simp [ei]
  ·by_cases h1:(10:UInt8) ∈ D
   ·have e1:=cP h1
    have h1' : (10:UInt8) ∈ D++P:=by simp [h1]
    have hb:cw 10 (D++P)=cw 10 D:=by
     rw (occs:=[1]) [e1]
     rw [List.append_assoc,List.cons_append]; exact er (fy 10 D)
    have vG:(cw 10 D).length+1≤D.length:=by have:=congrArg List.length e1; simp at this; omega
    cases h2:dU k (cw 10 D) with
    | none =>
     rw [dz (by rw [hb]; exact h2),dz h2]
     simp only [ei,ci,List.map_nil,List.sum_nil,List.mem_singleton]; omega
    | some e =>
     rw [cj h1' (by rw [hb]; exact h2),cj h1 h2,hb]
     have e2:(D++P).drop ((cw 10 D).length+1)=D.drop ((cw 10 D).length+1)++P:=List.drop_append_of_le_length vG
     rw [e2,fH]
     simp only [ei,List.mem_cons]
     have ih:=qo n (k+1) (a+((cw 10 D).length+1)) (D.drop ((cw 10 D).length+1)) P
     rw [List.length_drop] at ih
     have e3:a+((cw 10 D).length+1)+(D.length - ((cw 10 D).length+1))=a+D.length:=oM
     rw [e3] at ih
     constructor
     ·rintro (h | h)
      ·omega
      ·have:=ih.1 h; omega
     ·intro h
      exact .inr (ih.2 oM)
   ·rw [du h1]
    simp only [ci,List.map_nil,List.sum_nil]
    constructor
    ·intro h
     exfalso
     by_cases h3:(10:UInt8) ∈ D++P
     ·cases h2:dU k (cw 10 (D++P)) with
      | none=>rw [dz h2] at h; simp only [ei,List.mem_singleton] at h; omega
      | some e =>
       rw [cj h3 h2] at h
       simp only [ei,List.mem_cons] at h
       rcases h with h | h
       ·omega
       ·have:=qn _ _ _ h
        have we:D.length≤(cw 10 (D++P)).length:=by
         rcases Nat.lt_or_ge (cw 10 (D++P)).length D.length with vH | we
         ·exfalso
          have e4:=cP h3
          have h5:(D++P)[(cw 10 (D++P)).length]?=some 10:=by rw (occs:=[1]) [e4]; simp
          rw [List.getElem?_append_left vH] at h5
          exact h1 (List.mem_of_getElem? h5)
         ·exact we
        omega
     ·rw [du h3] at h; simp only [ei,List.mem_singleton] at h; omega
    ·intro h; omega
noncomputable def qp (D P:List UInt8) (n:Int):Bool :=
 decide (ci (aF 60 0 (D++P))=D.length+P.length) && decide (ci (aF 60 0 D)=D.length) && decide (((aF 60 0 (D++P)).length:Int)=n)
theorem eX {D P:List UInt8} (h:ci (aF 60 0 (D++P))=D.length+P.length):D.length+P.length≤30000:=by
 have:=mv 60 0 (D++P) oM; omega
theorem bY {D P:List UInt8} {n:Int} : qp D P n=true ↔ ci (aF 60 0 (D++P))=D.length+P.length∧ci (aF 60 0 D)=D.length∧((aF 60 0 (D++P)).length:Int)=n:=by
 unfold qp; simp [Bool.and_eq_true,and_assoc]
theorem rm {D P:List UInt8} {n:Int} : qp D P n=true ↔ ci (aF 60 0 (D++P))=D.length+P.length∧D.length ∈ ei 0 (aF 60 0 (D++P))∧n=((aF 60 0 (D++P)).length:Int):=by
 have:=qo 60 0 0 D P
 rw [Nat.zero_add] at this
 rw [bY,this]
 constructor <;> (rintro ⟨h1,h2,h3⟩; exact ⟨h1,h2,h3.symm⟩)
end Go.Proofs.YtoeoimhemojdeaaGreatDoor
namespace Go.Proofs.YtoeoimhemojdeaaGreatDoor
open Go.RowKit
def bl (s:ByteArray):List UInt8:=s.data.toList
theorem dk (a b:ByteArray):bl (a++b)=bl a++bl b:=by unfold bl; rw [ByteArray.data_append,Array.toList_append]
theorem bL (l:List UInt8):bl ⟨l.toArray⟩=l:=by simp [bl]
theorem lM (l:Array UInt8):bl ⟨l⟩=l.toList:=rfl
theorem ao (s:ByteArray):(bl s).length=s.size:=rfl
theorem dW {s:ByteArray} {l:List UInt8} (h:bl s=l):s=⟨l.toArray⟩:=by
 rw [← h]; simp [bl]
theorem ua {s t:ByteArray} (h:bl s=bl t):s=t:=(dW h).trans (dW rfl).symm
set_option maxRecDepth 10000 in
theorem bg (a b:ByteArray):(a++b).size=a.size+b.size:=by rw [← ao (a++b),dk,List.length_append,ao,ao]
theorem kb {s:ByteArray} {k:Nat} (h:k < s.size):(bl s).drop k=s[k] :: (bl s).drop (k+1):=List.drop_eq_getElem_cons (l:=bl s) h
theorem uH {s:ByteArray} {k:Nat} (h:k < s.size):(bl s).take (k+1)=(bl s).take k++[s[k]]:=List.take_succ_eq_append_getElem (l:=bl s) h
theorem bE (s:ByteArray) (a b:Nat):bl (s.extract a b)=((bl s).take b).drop a:=by
 unfold bl
 rw [Lib.extract_data,List.drop_take]
theorem uU {a b:UInt8} : ((a.toNat:Int) == (b.toNat:Int))=decide (a=b):=by
 rw [Bool.eq_iff_iff]; simp [← UInt8.toNat_inj]; omega
end Go.Proofs.YtoeoimhemojdeaaGreatDoor
namespace Go.Proofs.YtoeoimhemojdeaaGreatDoor
theorem vm (s:ByteArray):s.toList=bl s:=ByteArray.toList_eq s
theorem oG {s:ByteArray} (h : ¬ 1≤s.size):s.toList = []:=by rw [vm]; exact List.eq_nil_of_length_eq_zero (by rw [ao]; omega)
theorem oH {s:ByteArray} (h:1≤s.size):s.toList ≠ []:=fun e=>by rw [vm] at e; have:=congrArg List.length e; rw [ao,List.length_nil] at this; omega
end Go.Proofs.YtoeoimhemojdeaaGreatDoor
namespace Go.Proofs.YtoeoimhemojdeaaGreatDoor
open Go.RowKit
abbrev uc (l:List ByteArray):List Value:=l.map Value.string
theorem ke {w W:World} {g:Nat} {A:Option Addr} {bs:List UInt8} {cap m:Nat} (E:eR w W g A bs cap m) (b n:Nat) (l:List ByteArray) (hl:l.length=n) (hL:ah W b 9 (uc l)) (vJ:b ≠ g) (h0:0 < n) (hn:n≤100000) (hm:m≤900000000) :
  Calls vx 113 #[.pointer (some ⟨g,0,none⟩),F (some ⟨b,0,none⟩) n n] W fun e w'=>∃ x:ByteArray,e=.returned (vw x)∧x ∈ l∧eR w w' g A bs cap (m+2)∧W.grownBy w' (some g):=by
 go_enter Tryz.func113,Tryz.ntmps113
 go_wp2_with fail
 refine (dJ E n hn hm).mono ?_
 rintro e w1 ⟨x,rfl,hx,E1,gr⟩
 have vH:x < l.length:=oM
 have kc:w1.cell? ⟨b,x,none⟩=some (vw l[x]):=by
  rw [(hL.kept gr (by intro e; injection e with e; exact vJ e)).cell]; simp [vH]
 have zm:l[x] ∈ l:=List.getElem_mem vH
 have LH:x < n:=oM
 generalize l[x]=y at kc zm
 clear hx vH E
 go_wp2
 go_ret
 exact ⟨y,rfl,zm,E1,gr⟩
theorem kg (s:ByteArray) (a b:Nat):(s.extract a b).size=min b s.size - a:=ByteArray.size_extract ..
theorem nv (g:Nat) (A:Option Addr) (cap m:Nat) (bs:List UInt8) (t s:ByteArray) (w W:World) (hs:1≤s.size) (hs' : s.size≤100) (ht:t.size≤100000) (hm:m≤800000000) (E:eR w W g A bs cap m) :
  Calls vx 65 #[.pointer (some ⟨g,0,none⟩),vw t,vw s] W fun e w'=>∃ x:ByteArray,e=.returned (vw x)∧x.size≤t.size+1∧eR w w' g A bs cap (m+6)∧W.grownBy w' (some g):=by
 by_cases h0:1≤t.size
 ·have vJ:t.toList.isEmpty=false:=List.isEmpty_eq_false_iff.2 (oH h0)
  go_enter Tryz.func65,Tryz.ntmps65
  go_wp2_with fail
  refine (dJ E t.size oM oM).mono ?_
  rintro e w1 ⟨i,rfl,hi,E1,gr1⟩
  have hi' : i+1≤t.size:=oM
  clear hi vJ
  go_wp2_with fail
  refine (dJ E1 s.size oM oM).mono ?_
  rintro e w2 ⟨j,rfl,hj,E2,gr2⟩
  have gr12:=aB gr1 gr2
  have hj' : j+1≤s.size:=oM
  have z1:=kg s j s.size
  clear hj gr1 gr2 E1
  go_wp2_with fail
  have Kn:((s.extract j s.size).extract 0 1).size≤1:=by rw [kg]; omega
  generalize (s.extract j s.size).extract 0 1=x at Kn ⊢
  refine (dJ E2 3 oM oM).mono ?_
  rintro e w3 ⟨k,rfl,hk,E3,gr3⟩
  have gr:=aB gr12 gr3
  have z2:=kg t 0 i
  have z3:=kg t i t.size
  have z4:=kg t (i+1) t.size
  have y1:=bg (t.extract 0 i) x
  have y2:=bg (t.extract 0 i++x) (t.extract i t.size)
  have y3:=bg (t.extract 0 i++x) (t.extract (i+1) t.size)
  have y4:=bg (t.extract 0 i) (t.extract (i+1) t.size)
  have Ko:k=0 ∨ k=1 ∨ k=2:=oM
  have HE:=jZ E3
  have HG:=jZ gr
  clear gr12 gr3 E2 E3 gr E hk z1
  rcases Ko with rfl | rfl | rfl
  ·go_wp2_with fail
   refine ar kZ kZ ?_
   repeat (any_goals (first | go_big_quiet_step ((fail)) | (refine wpQuiet_step (fun K hK=>?_); go_simp; split <;> (refine hK _ ?_; clear hK K))))
   all_goals (refine wpQuiet_nil ?_; rintro _ ⟨q1,rfl⟩)
   go_wp2_with fail
   go_ret
   exact ⟨_,rfl,oM,HE.out.below q1.below,aB HG.out (cl q1.below _)⟩
  ·go_wp2_with fail
   refine ar kZ kZ ?_
   repeat (any_goals (first | go_big_quiet_step ((fail)) | (refine wpQuiet_step (fun K hK=>?_); go_simp; split <;> (refine hK _ ?_; clear hK K))))
   all_goals (refine wpQuiet_nil ?_; rintro _ ⟨q1,rfl⟩)
   go_wp2_with fail
   go_ret
   exact ⟨_,rfl,oM,HE.out.below q1.below,aB HG.out (cl q1.below _)⟩
  ·go_wp2_with fail
   refine ar kZ kZ ?_
   repeat (any_goals (first | go_big_quiet_step ((fail)) | (refine wpQuiet_step (fun K hK=>?_); go_simp; split <;> (refine hK _ ?_; clear hK K))))
   all_goals (refine wpQuiet_nil ?_; rintro _ ⟨q1,rfl⟩)
   go_wp2_with fail
   go_ret
   exact ⟨_,rfl,oM,HE.out.below q1.below,aB HG.out (cl q1.below _)⟩
 ·have he:t.toList.isEmpty=true:=List.isEmpty_iff.2 (oG h0)
  have z1:=kg s 0 1
  go_enter Tryz.func65,Tryz.ntmps65
  go_wp2_with fail
  go_ret
  exact ⟨_,rfl,by rw [z1]; omega,E.mono oM,World.grownBy.refl _ _⟩
end Go.Proofs.YtoeoimhemojdeaaGreatDoor
namespace Go.Proofs
open Go.Shelf
def Tryz.lays137_ren:Go.Shelf.Ren:=⟨fun | 137=>122 | 217=>168 | 266=>193 | n=>n,fun | 9=>9 | 5=>5 | 3=>3 | n=>n,fun | n=>n⟩
theorem Tryz.lays137:Go.Proofs.Lays.n137 vx Tryz.lays137_ren:={
 mixed:=by kernel_rfl
 f137:=Tryz.func122.trans (congrArg some (by kernel_rfl))
 f217:=Tryz.func168.trans (congrArg some (by kernel_rfl))
 f266:=Tryz.func193.trans (congrArg some (by kernel_rfl))
 t3:=Tryz.underlying3
 a3:=Tryz.isAgg3
 z3:=Tryz.sizeOf3
 v3:=Tryz.zeroValue3
 t5:=Tryz.underlying5
 a5:=Tryz.isAgg5
 z5:=Tryz.sizeOf5
 v5:=Tryz.zeroValue5
 t9:=Tryz.underlying9
 a9:=Tryz.isAgg9
 z9:=Tryz.sizeOf9
 v9:=Tryz.zeroValue9 }
open Go.RowKit in
theorem Tryz.strings_IndexByte (s:ByteArray) (c:Int) (w:World) :
  Calls vx 122 #[vw s,.int .u8 c] w fun e w'=>e=.returned (O U (Lib.indexByte s.data.toList c.toNat.toUInt8))∧w'=w:=Any.strings_IndexByte Tryz.lays137 s c w
def Tryz.lays103_ren:Go.Shelf.Ren:=⟨fun | 103=>170 | 210=>195 | 206=>220 | n=>n,fun | 9=>9 | 4=>4 | 24=>64 | 3=>3 | n=>n,fun | n=>n⟩
theorem Tryz.lays103:Go.Proofs.Lays.n103 vx Tryz.lays103_ren:={
 mixed:=by kernel_rfl
 f103:=Tryz.func170.trans (congrArg some (by kernel_rfl))
 f206:=Tryz.func220.trans (congrArg some (by kernel_rfl))
 f210:=Tryz.func195.trans (congrArg some (by kernel_rfl))
 t3:=Tryz.underlying3
 a3:=Tryz.isAgg3
 z3:=Tryz.sizeOf3
 v3:=Tryz.zeroValue3
 t4:=Tryz.underlying4
 a4:=Tryz.isAgg4
 z4:=Tryz.sizeOf4
 v4:=Tryz.zeroValue4
 t9:=Tryz.underlying9
 a9:=Tryz.isAgg9
 z9:=Tryz.sizeOf9
 v9:=Tryz.zeroValue9
 t24:=Tryz.underlying64
 a24:=Tryz.isAgg64
 z24:=Tryz.sizeOf64
 v24:=Tryz.zeroValue64 }
open Go.RowKit in
theorem Tryz.strings_CutPrefix (s p:ByteArray) (w:World) :
  Calls vx 170 #[vw s,vw p] w fun e w'=>e=.returned (.tuple #[vw ⟨(Lib.trimPrefix s.data.toList p.data.toList).toArray⟩,.bool (Lib.hasPrefix s.data.toList p.data.toList)])∧w'=w:=Any.strings_CutPrefix Tryz.lays103 s p w
def Tryz.laysM171_ren:Go.Shelf.Ren:=⟨fun | 171=>69 | 243=>124 | 246=>172 | 283=>197 | 284=>198 | 285=>199 | 286=>200 | 129=>222 | 317=>221 | 318=>223 | 319=>224 | 320=>225 | 337=>239 | 338=>240 | n=>n,fun | 3=>3 | 9=>9 | 2=>2 | 4=>4 | 171=>199 | 0=>0 | 53=>90 | 37=>54 | 5=>5 | 173=>202 | 212=>219 | 51=>220 | 20=>20 | 213=>221 | 46=>181 | 232=>250 | 233=>251 | n=>n,fun | 17=>1 | 18=>6 | 19=>7 | n=>n⟩
theorem Tryz.laysM171:Go.Proofs.LaysM.n171 vx Tryz.laysM171_ren:={
 mixed:=by kernel_rfl
 f129:=Tryz.func222.trans (congrArg some (by kernel_rfl))
 f171:=Tryz.func69.trans (congrArg some (by kernel_rfl))
 f243:=Tryz.func124.trans (congrArg some (by kernel_rfl))
 f246:=Tryz.func172.trans (congrArg some (by kernel_rfl))
 f283:=Tryz.func197.trans (congrArg some (by kernel_rfl))
 f284:=Tryz.func198.trans (congrArg some (by kernel_rfl))
 f285:=Tryz.func199.trans (congrArg some (by kernel_rfl))
 f286:=Tryz.func200.trans (congrArg some (by kernel_rfl))
 f317:=Tryz.func221.trans (congrArg some (by kernel_rfl))
 f318:=Tryz.func223.trans (congrArg some (by kernel_rfl))
 f319:=Tryz.func224.trans (congrArg some (by kernel_rfl))
 f320:=Tryz.func225.trans (congrArg some (by kernel_rfl))
 f337:=Tryz.func239.trans (congrArg some (by kernel_rfl))
 f338:=Tryz.func240.trans (congrArg some (by kernel_rfl))
 t0:=Tryz.underlying0
 a0:=Tryz.isAgg0
 z0:=Tryz.sizeOf0
 v0:=Tryz.zeroValue0
 t2:=Tryz.underlying2
 a2:=Tryz.isAgg2
 z2:=Tryz.sizeOf2
 v2:=Tryz.zeroValue2
 t3:=Tryz.underlying3
 a3:=Tryz.isAgg3
 z3:=Tryz.sizeOf3
 v3:=Tryz.zeroValue3
 t4:=Tryz.underlying4
 a4:=Tryz.isAgg4
 z4:=Tryz.sizeOf4
 v4:=Tryz.zeroValue4
 t5:=Tryz.underlying5
 a5:=Tryz.isAgg5
 z5:=Tryz.sizeOf5
 v5:=Tryz.zeroValue5
 t9:=Tryz.underlying9
 a9:=Tryz.isAgg9
 z9:=Tryz.sizeOf9
 v9:=Tryz.zeroValue9
 t20:=Tryz.underlying20
 a20:=Tryz.isAgg20
 z20:=Tryz.sizeOf20
 v20:=Tryz.zeroValue20
 t37:=Tryz.underlying54
 a37:=Tryz.isAgg54
 z37:=Tryz.sizeOf54
 v37:=Tryz.zeroValue54
 t46:=Tryz.underlying181
 a46:=Tryz.isAgg181
 z46:=Tryz.sizeOf181
 v46:=Tryz.zeroValue181
 t51:=Tryz.underlying220
 a51:=Tryz.isAgg220
 z51:=Tryz.sizeOf220
 v51:=Tryz.zeroValue220
 t53:=Tryz.underlying90
 a53:=Tryz.isAgg90
 z53:=Tryz.sizeOf90
 v53:=Tryz.zeroValue90
 t171:=Tryz.underlying199
 a171:=Tryz.isAgg199
 z171:=Tryz.sizeOf199
 v171:=Tryz.zeroValue199
 t173:=Tryz.underlying202
 a173:=Tryz.isAgg202
 z173:=Tryz.sizeOf202
 v173:=Tryz.zeroValue202
 t212:=Tryz.underlying219
 a212:=Tryz.isAgg219
 z212:=Tryz.sizeOf219
 v212:=Tryz.zeroValue219
 t213:=Tryz.underlying221
 a213:=Tryz.isAgg221
 z213:=Tryz.sizeOf221
 t232:=Tryz.underlying250
 a232:=Tryz.isAgg250
 z232:=Tryz.sizeOf250
 v232:=Tryz.zeroValue250
 t233:=Tryz.underlying251
 a233:=Tryz.isAgg251
 z233:=Tryz.sizeOf251
 v233:=Tryz.zeroValue251
 g17:=by kernel_rfl
 g18:=by kernel_rfl
 g19:=by kernel_rfl
 i0:=by kernel_rfl
 i2:=by kernel_rfl
 i3:=by kernel_rfl
 i4:=by kernel_rfl
 i5:=by kernel_rfl
 i9:=by kernel_rfl
 i20:=by kernel_rfl
 i37:=by kernel_rfl
 i46:=by kernel_rfl
 i51:=by kernel_rfl
 i53:=by kernel_rfl
 i171:=by kernel_rfl
 i173:=by kernel_rfl
 i212:=by kernel_rfl
 i232:=by kernel_rfl
 i233:=by kernel_rfl
 m17:=by kernel_rfl
 m18:=by kernel_rfl
 m19:=by kernel_rfl }
open Go.RowKit Go.Sort Go.Lib in
theorem Tryz.strconv_Itoa (n : Int) (h0 : -9223372036854775808 ≤ n) (h1 : n ≤ 9223372036854775807) (w : World) (Ho : Lib.TabIs vx w "internal/strconv.uint64pow10" .u64 Lib.pow10Tab) :
  Calls vx 69 #[O U n] w fun e w'=>e=.returned (vw ⟨(Lib.itoa n).toArray⟩)∧∃ k os,w'=grow (w.drewN k) os:=Any.strconv_Itoa Tryz.laysM171 n h0 h1 w Ho
def Tryz.laysC172_ren:Go.Shelf.Ren:=⟨fun | 172=>150 | 244=>181 | 245=>182 | 247=>206 | 279=>207 | 280=>208 | 281=>209 | 282=>210 | 287=>227 | 316=>228 | 171=>69 | 205=>229 | 321=>241 | 322=>242 | 243=>124 | 246=>172 | 283=>197 | 284=>198 | 285=>199 | 286=>200 | 129=>222 | 317=>221 | 318=>223 | 319=>224 | 320=>225 | 337=>239 | 338=>240 | n=>n,fun | 9=>9 | 3=>3 | 75=>173 | 76=>174 | 4=>4 | 5=>5 | 167=>206 | 37=>54 | 0=>0 | 85=>207 | 2=>2 | 168=>209 | 53=>90 | 175=>225 | 46=>181 | 210=>228 | 127=>245 | 145=>248 | 143=>246 | 21=>21 | 171=>199 | 173=>202 | 212=>219 | 51=>220 | 20=>20 | 213=>221 | 232=>250 | 233=>251 | 80=>234 | n=>n,fun | 15=>2 | 16=>3 | 17=>1 | 18=>6 | 19=>7 | n=>n⟩
theorem Tryz.laysC172:Go.Proofs.LaysC.n172 vx Tryz.laysC172_ren:={
 mixed:=by kernel_rfl
 f129:=Tryz.func222.trans (congrArg some (by kernel_rfl))
 f171:=Tryz.func69.trans (congrArg some (by kernel_rfl))
 f172:=Tryz.func150.trans (congrArg some (by kernel_rfl))
 f205:=Tryz.func229.trans (congrArg some (by kernel_rfl))
 f243:=Tryz.func124.trans (congrArg some (by kernel_rfl))
 f244:=Tryz.func181.trans (congrArg some (by kernel_rfl))
 f245:=Tryz.func182.trans (congrArg some (by kernel_rfl))
 f246:=Tryz.func172.trans (congrArg some (by kernel_rfl))
 f247:=Tryz.func206.trans (congrArg some (by kernel_rfl))
 f279:=Tryz.func207.trans (congrArg some (by kernel_rfl))
 f280:=Tryz.func208.trans (congrArg some (by kernel_rfl))
 f281:=Tryz.func209.trans (congrArg some (by kernel_rfl))
 f282:=Tryz.func210.trans (congrArg some (by kernel_rfl))
 f283:=Tryz.func197.trans (congrArg some (by kernel_rfl))
 f284:=Tryz.func198.trans (congrArg some (by kernel_rfl))
 f285:=Tryz.func199.trans (congrArg some (by kernel_rfl))
 f286:=Tryz.func200.trans (congrArg some (by kernel_rfl))
 f287:=Tryz.func227.trans (congrArg some (by kernel_rfl))
 f316:=Tryz.func228.trans (congrArg some (by kernel_rfl))
 f317:=Tryz.func221.trans (congrArg some (by kernel_rfl))
 f318:=Tryz.func223.trans (congrArg some (by kernel_rfl))
 f319:=Tryz.func224.trans (congrArg some (by kernel_rfl))
 f320:=Tryz.func225.trans (congrArg some (by kernel_rfl))
 f321:=Tryz.func241.trans (congrArg some (by kernel_rfl))
 f322:=Tryz.func242.trans (congrArg some (by kernel_rfl))
 f337:=Tryz.func239.trans (congrArg some (by kernel_rfl))
 f338:=Tryz.func240.trans (congrArg some (by kernel_rfl))
 t0:=Tryz.underlying0
 a0:=Tryz.isAgg0
 z0:=Tryz.sizeOf0
 v0:=Tryz.zeroValue0
 t2:=Tryz.underlying2
 a2:=Tryz.isAgg2
 z2:=Tryz.sizeOf2
 v2:=Tryz.zeroValue2
 t3:=Tryz.underlying3
 a3:=Tryz.isAgg3
 z3:=Tryz.sizeOf3
 v3:=Tryz.zeroValue3
 t4:=Tryz.underlying4
 a4:=Tryz.isAgg4
 z4:=Tryz.sizeOf4
 v4:=Tryz.zeroValue4
 t5:=Tryz.underlying5
 a5:=Tryz.isAgg5
 z5:=Tryz.sizeOf5
 v5:=Tryz.zeroValue5
 t9:=Tryz.underlying9
 a9:=Tryz.isAgg9
 z9:=Tryz.sizeOf9
 v9:=Tryz.zeroValue9
 t20:=Tryz.underlying20
 a20:=Tryz.isAgg20
 z20:=Tryz.sizeOf20
 v20:=Tryz.zeroValue20
 t21:=Tryz.underlying21
 a21:=Tryz.isAgg21
 z21:=Tryz.sizeOf21
 v21:=Tryz.zeroValue21
 t37:=Tryz.underlying54
 a37:=Tryz.isAgg54
 z37:=Tryz.sizeOf54
 v37:=Tryz.zeroValue54
 t46:=Tryz.underlying181
 a46:=Tryz.isAgg181
 z46:=Tryz.sizeOf181
 v46:=Tryz.zeroValue181
 t51:=Tryz.underlying220
 a51:=Tryz.isAgg220
 z51:=Tryz.sizeOf220
 v51:=Tryz.zeroValue220
 t53:=Tryz.underlying90
 a53:=Tryz.isAgg90
 z53:=Tryz.sizeOf90
 v53:=Tryz.zeroValue90
 t75:=Tryz.underlying173
 a75:=Tryz.isAgg173
 z75:=Tryz.sizeOf173
 v75:=Tryz.zeroValue173
 t76:=Tryz.underlying174
 a76:=Tryz.isAgg174
 z76:=Tryz.sizeOf174
 v76:=Tryz.zeroValue174
 t85:=Tryz.underlying207
 a85:=Tryz.isAgg207
 z85:=Tryz.sizeOf207
 v85:=Tryz.zeroValue207
 t127:=Tryz.underlying245
 a127:=Tryz.isAgg245
 z127:=Tryz.sizeOf245
 v127:=Tryz.zeroValue245
 t143:=Tryz.underlying246
 a143:=Tryz.isAgg246
 z143:=Tryz.sizeOf246
 v143:=Tryz.zeroValue246
 t145:=Tryz.underlying248
 a145:=Tryz.isAgg248
 z145:=Tryz.sizeOf248
 v145:=Tryz.zeroValue248
 t167:=Tryz.underlying206
 a167:=Tryz.isAgg206
 z167:=Tryz.sizeOf206
 v167:=Tryz.zeroValue206
 t168:=Tryz.underlying209
 a168:=Tryz.isAgg209
 z168:=Tryz.sizeOf209
 v168:=Tryz.zeroValue209
 t171:=Tryz.underlying199
 a171:=Tryz.isAgg199
 z171:=Tryz.sizeOf199
 v171:=Tryz.zeroValue199
 t173:=Tryz.underlying202
 a173:=Tryz.isAgg202
 z173:=Tryz.sizeOf202
 v173:=Tryz.zeroValue202
 t175:=Tryz.underlying225
 a175:=Tryz.isAgg225
 z175:=Tryz.sizeOf225
 v175:=Tryz.zeroValue225
 t210:=Tryz.underlying228
 a210:=Tryz.isAgg228
 z210:=Tryz.sizeOf228
 v210:=Tryz.zeroValue228
 t212:=Tryz.underlying219
 a212:=Tryz.isAgg219
 z212:=Tryz.sizeOf219
 v212:=Tryz.zeroValue219
 t213:=Tryz.underlying221
 a213:=Tryz.isAgg221
 z213:=Tryz.sizeOf221
 t232:=Tryz.underlying250
 a232:=Tryz.isAgg250
 z232:=Tryz.sizeOf250
 v232:=Tryz.zeroValue250
 t233:=Tryz.underlying251
 a233:=Tryz.isAgg251
 z233:=Tryz.sizeOf251
 v233:=Tryz.zeroValue251
 g15:=by kernel_rfl
 g16:=by kernel_rfl
 g17:=by kernel_rfl
 g18:=by kernel_rfl
 g19:=by kernel_rfl
 t80:=Tryz.underlying234
 a80:=Tryz.isAgg234
 z80:=Tryz.sizeOf234
 v80:=Tryz.zeroValue234
 i0:=by kernel_rfl
 i2:=by kernel_rfl
 i3:=by kernel_rfl
 i4:=by kernel_rfl
 i5:=by kernel_rfl
 i9:=by kernel_rfl
 i20:=by kernel_rfl
 i21:=by kernel_rfl
 i37:=by kernel_rfl
 i46:=by kernel_rfl
 i51:=by kernel_rfl
 i53:=by kernel_rfl
 i75:=by kernel_rfl
 i76:=by kernel_rfl
 i80:=by kernel_rfl
 i85:=by kernel_rfl
 i127:=by kernel_rfl
 i143:=by kernel_rfl
 i145:=by kernel_rfl
 i167:=by kernel_rfl
 i168:=by kernel_rfl
 i171:=by kernel_rfl
 i173:=by kernel_rfl
 i175:=by kernel_rfl
 i210:=by kernel_rfl
 i212:=by kernel_rfl
 i232:=by kernel_rfl
 i233:=by kernel_rfl
 m15:=by kernel_rfl
 m16:=by kernel_rfl
 m17:=by kernel_rfl
 m18:=by kernel_rfl
 m19:=by kernel_rfl
 c0:=by kernel_rfl
 c2:=by kernel_rfl
 c3:=by kernel_rfl
 c4:=by kernel_rfl
 c5:=by kernel_rfl
 c9:=by kernel_rfl
 c20:=by kernel_rfl
 c21:=by kernel_rfl
 c37:=by kernel_rfl
 c46:=by kernel_rfl
 c51:=by kernel_rfl
 c53:=by kernel_rfl
 c75:=by kernel_rfl
 c76:=by kernel_rfl
 c80:=by kernel_rfl
 c85:=by kernel_rfl
 c127:=by kernel_rfl
 c143:=by kernel_rfl
 c145:=by kernel_rfl
 c167:=by kernel_rfl
 c168:=by kernel_rfl
 c171:=by kernel_rfl
 c173:=by kernel_rfl
 c175:=by kernel_rfl
 c210:=by kernel_rfl
 c212:=by kernel_rfl
 c213:=by kernel_rfl
 c232:=by kernel_rfl
 c233:=by kernel_rfl }
open Go.RowKit in
theorem Tryz.strconv_Atoi_ok (s:ByteArray) (Hp:s.size≤9223372036854775806) (v:Int) (h:Lib.atoiAll s.data.toList=.ok v) (w:World) :
  Calls vx 150 #[vw s] w fun e w'=>e=.returned (.tuple #[O U v,.nilIface])∧(w'=w ∨ ∃ t,w'=Lib.bytesWorld w 5 t):=Any.strconv_Atoi_ok Tryz.laysC172 s Hp v h w
open Go.RowKit in
theorem Tryz.strconv_Atoi_syntax (s:ByteArray) (Do:s.size≤281474976710656) (h:Lib.atoiAll s.data.toList=Lib.atoiAll []) (ev:Value) (w:World) (hv:w.cell? ⟨2,0,none⟩=some ev) (Hq:ev=.nilIface ∨ ∃ te pe,ev=.iface te pe) :
  Calls vx 150 #[vw s] w fun e w'=>∃ N,e=.returned (.tuple #[O U (0),.iface 209 (.pointer (some ⟨N,0,none⟩))])∧w.heap.size≤N∧w'.heap[N]?=some (.cells #[vw ⟨#[65,116,111,105]⟩,vw s,ev] 228 (0,0))∧Below w.heap.size w w':=Any.strconv_Atoi_syntax Tryz.laysC172 s Do (h.trans rfl) ev w hv Hq
open Go.RowKit in
theorem Tryz.strconv_Atoi_range (s:ByteArray) (Do:s.size≤281474976710656) (h:Lib.atoiAll s.data.toList=.range) (ev:Value) (w:World) (hv:w.cell? ⟨3,0,none⟩=some ev) (Hq:ev=.nilIface ∨ ∃ te pe,ev=.iface te pe) :
  Calls vx 150 #[vw s] w fun e w'=>∃ N,e=.returned (.tuple #[O U (Lib.atoiSat s.data.toList),.iface 209 (.pointer (some ⟨N,0,none⟩))])∧w.heap.size≤N∧w'.heap[N]?=some (.cells #[vw ⟨#[65,116,111,105]⟩,vw s,ev] 228 (0,0))∧Below w.heap.size w w':=Any.strconv_Atoi_range Tryz.laysC172 s Do h ev w hv Hq
def Tryz.lays219_ren:Go.Shelf.Ren:=⟨fun | 219=>180 | 217=>168 | 225=>203 | 224=>204 | 267=>205 | 266=>193 | 314=>226 | n=>n,fun | 9=>9 | 3=>3 | 4=>4 | 5=>5 | 46=>181 | 146=>223 | 51=>220 | n=>n,fun | 1=>0 | n=>n⟩
theorem Tryz.lays219:Go.Proofs.Lays.n219 vx Tryz.lays219_ren:={
 mixed:=by kernel_rfl
 f217:=Tryz.func168.trans (congrArg some (by kernel_rfl))
 f219:=Tryz.func180.trans (congrArg some (by kernel_rfl))
 f224:=Tryz.func204.trans (congrArg some (by kernel_rfl))
 f225:=Tryz.func203.trans (congrArg some (by kernel_rfl))
 f266:=Tryz.func193.trans (congrArg some (by kernel_rfl))
 f267:=Tryz.func205.trans (congrArg some (by kernel_rfl))
 f314:=Tryz.func226.trans (congrArg some (by kernel_rfl))
 t3:=Tryz.underlying3
 a3:=Tryz.isAgg3
 z3:=Tryz.sizeOf3
 v3:=Tryz.zeroValue3
 t4:=Tryz.underlying4
 a4:=Tryz.isAgg4
 z4:=Tryz.sizeOf4
 v4:=Tryz.zeroValue4
 t5:=Tryz.underlying5
 a5:=Tryz.isAgg5
 z5:=Tryz.sizeOf5
 v5:=Tryz.zeroValue5
 t9:=Tryz.underlying9
 a9:=Tryz.isAgg9
 z9:=Tryz.sizeOf9
 v9:=Tryz.zeroValue9
 t46:=Tryz.underlying181
 a46:=Tryz.isAgg181
 z46:=Tryz.sizeOf181
 v46:=Tryz.zeroValue181
 t51:=Tryz.underlying220
 a51:=Tryz.isAgg220
 z51:=Tryz.sizeOf220
 v51:=Tryz.zeroValue220
 t146:=Tryz.underlying223
 a146:=Tryz.isAgg223
 z146:=Tryz.sizeOf223
 v146:=Tryz.zeroValue223
 g1:=by kernel_rfl }
open Go.RowKit Go.Lib in
theorem Tryz.stringslite_Index_one (s:ByteArray) (c:UInt8) (w:World) :
  Calls vx 180 #[vw s,vw ⟨#[c]⟩] w fun e w'=>e=.returned (O U (Lib.indexByte s.data.toList c))∧w'=w:=Any.stringslite_Index_one Tryz.lays219 s c w
def Tryz.lays144_ren:Go.Shelf.Ren:=⟨fun | 144=>95 | 143=>149 | 219=>180 | 217=>168 | 225=>203 | 224=>204 | 267=>205 | 266=>193 | 314=>226 | n=>n,fun | 9=>9 | 4=>4 | 3=>3 | 5=>5 | 46=>181 | 146=>223 | 51=>220 | n=>n,fun | 1=>0 | n=>n⟩
theorem Tryz.lays144:Go.Proofs.Lays.n144 vx Tryz.lays144_ren:={
 mixed:=by kernel_rfl
 f143:=Tryz.func149.trans (congrArg some (by kernel_rfl))
 f144:=Tryz.func95.trans (congrArg some (by kernel_rfl))
 f217:=Tryz.func168.trans (congrArg some (by kernel_rfl))
 f219:=Tryz.func180.trans (congrArg some (by kernel_rfl))
 f224:=Tryz.func204.trans (congrArg some (by kernel_rfl))
 f225:=Tryz.func203.trans (congrArg some (by kernel_rfl))
 f266:=Tryz.func193.trans (congrArg some (by kernel_rfl))
 f267:=Tryz.func205.trans (congrArg some (by kernel_rfl))
 f314:=Tryz.func226.trans (congrArg some (by kernel_rfl))
 t3:=Tryz.underlying3
 a3:=Tryz.isAgg3
 z3:=Tryz.sizeOf3
 v3:=Tryz.zeroValue3
 t4:=Tryz.underlying4
 a4:=Tryz.isAgg4
 z4:=Tryz.sizeOf4
 v4:=Tryz.zeroValue4
 t5:=Tryz.underlying5
 a5:=Tryz.isAgg5
 z5:=Tryz.sizeOf5
 v5:=Tryz.zeroValue5
 t9:=Tryz.underlying9
 a9:=Tryz.isAgg9
 z9:=Tryz.sizeOf9
 v9:=Tryz.zeroValue9
 t46:=Tryz.underlying181
 a46:=Tryz.isAgg181
 z46:=Tryz.sizeOf181
 v46:=Tryz.zeroValue181
 t51:=Tryz.underlying220
 a51:=Tryz.isAgg220
 z51:=Tryz.sizeOf220
 v51:=Tryz.zeroValue220
 t146:=Tryz.underlying223
 a146:=Tryz.isAgg223
 z146:=Tryz.sizeOf223
 v146:=Tryz.zeroValue223
 g1:=by kernel_rfl }
open Go.RowKit Go.Lib in
theorem Tryz.strings_Contains_one (s:ByteArray) (c:UInt8) (w:World) :
  Calls vx 95 #[vw s,vw ⟨#[c]⟩] w fun e w'=>e=.returned (.bool (decide (0≤Lib.indexByte s.data.toList c)))∧w'=w:=Any.strings_Contains_one Tryz.lays144 s c w
def Tryz.lays148_ren:Go.Shelf.Ren:=⟨fun | 148=>194 | 222=>218 | 223=>219 | 269=>238 | n=>n,fun | 9=>9 | 3=>3 | 4=>4 | 5=>5 | 146=>223 | 51=>220 | 46=>181 | n=>n,fun | n=>n⟩
theorem Tryz.lays148:Go.Proofs.Lays.n148 vx Tryz.lays148_ren:={
 mixed:=by kernel_rfl
 f148:=Tryz.func194.trans (congrArg some (by kernel_rfl))
 f222:=Tryz.func218.trans (congrArg some (by kernel_rfl))
 f223:=Tryz.func219.trans (congrArg some (by kernel_rfl))
 f269:=Tryz.func238.trans (congrArg some (by kernel_rfl))
 t3:=Tryz.underlying3
 a3:=Tryz.isAgg3
 z3:=Tryz.sizeOf3
 v3:=Tryz.zeroValue3
 t4:=Tryz.underlying4
 a4:=Tryz.isAgg4
 z4:=Tryz.sizeOf4
 v4:=Tryz.zeroValue4
 t5:=Tryz.underlying5
 a5:=Tryz.isAgg5
 z5:=Tryz.sizeOf5
 v5:=Tryz.zeroValue5
 t9:=Tryz.underlying9
 a9:=Tryz.isAgg9
 z9:=Tryz.sizeOf9
 v9:=Tryz.zeroValue9
 t46:=Tryz.underlying181
 a46:=Tryz.isAgg181
 z46:=Tryz.sizeOf181
 v46:=Tryz.zeroValue181
 t51:=Tryz.underlying220
 a51:=Tryz.isAgg220
 z51:=Tryz.sizeOf220
 v51:=Tryz.zeroValue220
 t146:=Tryz.underlying223
 a146:=Tryz.isAgg223
 z146:=Tryz.sizeOf223
 v146:=Tryz.zeroValue223 }
open Go.RowKit Go.Lib in
theorem Tryz.strings_LastIndex (s sub:ByteArray) (hs:s.size < 4611686018427387904) (w:World) :
  Calls vx 194 #[vw s,vw sub] w fun e w'=>e=.returned (O U (Lib.lastIndex s.data.toList sub.data.toList))∧w'=w:=Any.strings_LastIndex Tryz.lays148 s sub hs w
def Tryz.lays146_ren:Go.Shelf.Ren:=⟨fun | 146=>59 | 221=>107 | 268=>161 | 138=>162 | 143=>149 | 195=>188 | 197=>189 | 218=>190 | 219=>180 | 260=>217 | 217=>168 | 225=>203 | 224=>204 | 267=>205 | 266=>193 | 314=>226 | n=>n,fun | 9=>9 | 31=>49 | 3=>3 | 4=>4 | 0=>0 | 105=>195 | 21=>21 | 5=>5 | 46=>181 | 119=>239 | 139=>242 | 138=>241 | 146=>223 | 51=>220 | n=>n,fun | 1=>0 | 3=>4 | 4=>5 | n=>n⟩
theorem Tryz.lays146:Go.Proofs.Lays.n146 vx Tryz.lays146_ren:={
 mixed:=by kernel_rfl
 f138:=Tryz.func162.trans (congrArg some (by kernel_rfl))
 f143:=Tryz.func149.trans (congrArg some (by kernel_rfl))
 f146:=Tryz.func59.trans (congrArg some (by kernel_rfl))
 f195:=Tryz.func188.trans (congrArg some (by kernel_rfl))
 f197:=Tryz.func189.trans (congrArg some (by kernel_rfl))
 f217:=Tryz.func168.trans (congrArg some (by kernel_rfl))
 f218:=Tryz.func190.trans (congrArg some (by kernel_rfl))
 f219:=Tryz.func180.trans (congrArg some (by kernel_rfl))
 f221:=Tryz.func107.trans (congrArg some (by kernel_rfl))
 f224:=Tryz.func204.trans (congrArg some (by kernel_rfl))
 f225:=Tryz.func203.trans (congrArg some (by kernel_rfl))
 f260:=Tryz.func217.trans (congrArg some (by kernel_rfl))
 f266:=Tryz.func193.trans (congrArg some (by kernel_rfl))
 f267:=Tryz.func205.trans (congrArg some (by kernel_rfl))
 f268:=Tryz.func161.trans (congrArg some (by kernel_rfl))
 f314:=Tryz.func226.trans (congrArg some (by kernel_rfl))
 t0:=Tryz.underlying0
 a0:=Tryz.isAgg0
 z0:=Tryz.sizeOf0
 v0:=Tryz.zeroValue0
 t3:=Tryz.underlying3
 a3:=Tryz.isAgg3
 z3:=Tryz.sizeOf3
 v3:=Tryz.zeroValue3
 t4:=Tryz.underlying4
 a4:=Tryz.isAgg4
 z4:=Tryz.sizeOf4
 v4:=Tryz.zeroValue4
 t5:=Tryz.underlying5
 a5:=Tryz.isAgg5
 z5:=Tryz.sizeOf5
 v5:=Tryz.zeroValue5
 t9:=Tryz.underlying9
 a9:=Tryz.isAgg9
 z9:=Tryz.sizeOf9
 v9:=Tryz.zeroValue9
 t21:=Tryz.underlying21
 a21:=Tryz.isAgg21
 z21:=Tryz.sizeOf21
 v21:=Tryz.zeroValue21
 t31:=Tryz.underlying49
 a31:=Tryz.isAgg49
 z31:=Tryz.sizeOf49
 v31:=Tryz.zeroValue49
 t46:=Tryz.underlying181
 a46:=Tryz.isAgg181
 z46:=Tryz.sizeOf181
 v46:=Tryz.zeroValue181
 t51:=Tryz.underlying220
 a51:=Tryz.isAgg220
 z51:=Tryz.sizeOf220
 v51:=Tryz.zeroValue220
 t105:=Tryz.underlying195
 a105:=Tryz.isAgg195
 z105:=Tryz.sizeOf195
 v105:=Tryz.zeroValue195
 t119:=Tryz.underlying239
 a119:=Tryz.isAgg239
 z119:=Tryz.sizeOf239
 t138:=Tryz.underlying241
 a138:=Tryz.isAgg241
 z138:=Tryz.sizeOf241
 v138:=Tryz.zeroValue241
 t139:=Tryz.underlying242
 a139:=Tryz.isAgg242
 z139:=Tryz.sizeOf242
 v139:=Tryz.zeroValue242
 t146:=Tryz.underlying223
 a146:=Tryz.isAgg223
 z146:=Tryz.sizeOf223
 v146:=Tryz.zeroValue223
 g1:=by kernel_rfl
 g3:=by kernel_rfl
 g4:=by kernel_rfl }
open Go.RowKit Go.Lib in
theorem Tryz.strings_Split (s sep:ByteArray) (m:Int) (w:World) (hs:s.size < 4294967281) (hm:w.cell? ⟨0,0,none⟩=some (O U m)) (h1:1≤sep.size) :
  Calls vx 59 #[vw s,vw sep] w fun e w' =>
   e=.returned (F (some ⟨w.heap.size,0,none⟩) (Lib.countB s sep+1) (Lib.countB s sep+1))∧w'=w.alloc (.cells ((Lib.splitB sep 0 (Lib.countB s sep) s).map Value.string).toArray 9):=Any.strings_Split Tryz.lays146 (by kernel_rfl) s sep m w hs hm h1
def Tryz.lays107_ren:Go.Shelf.Ren:=⟨fun | 107=>78 | 108=>129 | n=>n,fun | 28=>100 | 3=>3 | 4=>4 | 0=>0 | n=>n,fun | n=>n⟩
theorem Tryz.lays107:Go.Proofs.Lays.n107 vx Tryz.lays107_ren:={
 mixed:=by kernel_rfl
 f107:=Tryz.func78.trans (congrArg some (by kernel_rfl))
 f108:=Tryz.func129.trans (congrArg some (by kernel_rfl))
 t0:=Tryz.underlying0
 a0:=Tryz.isAgg0
 z0:=Tryz.sizeOf0
 v0:=Tryz.zeroValue0
 t3:=Tryz.underlying3
 a3:=Tryz.isAgg3
 z3:=Tryz.sizeOf3
 v3:=Tryz.zeroValue3
 t4:=Tryz.underlying4
 a4:=Tryz.isAgg4
 z4:=Tryz.sizeOf4
 v4:=Tryz.zeroValue4
 t28:=Tryz.underlying100
 a28:=Tryz.isAgg100
 z28:=Tryz.sizeOf100
 v28:=Tryz.zeroValue100 }
open Go.Lib in
theorem Tryz.slices_Contains_int (b off n c:Nat) (zs:List Int) (x:Int) (w:World) (hz:n≤zs.length) (zy:n≤9223372036854775807) (hc:∀ j,j < zs.length→w.cell? ⟨b,off+j,none⟩=some (O U (zs.getD j 0))) :
  Calls vx 78 #[F (some ⟨b,off,none⟩) n c,O U x] w fun e w'=>e=.returned (.bool ((zs.take n).contains x))∧w'=w:=Any.slices_Contains_int Tryz.lays107 b off n c zs x w hz zy hc
end Go.Proofs
namespace Go.Proofs.YtoeoimhemojdeaaGreatDoor
open Go.RowKit
theorem ro (w:World) (k:Nat) (os:Array Obj):Below w.heap.size w (Sort.grow (w.drewN k) os):=by
 have h1:Below w.heap.size w (w.drewN k):=below_drewN jB k
 refine h1.trans ⟨rfl,rfl,rfl,by simp [Sort.grow],fun i hi=>?_⟩
 have hs:(w.drewN k).heap=w.heap:=sP
 simp only [Sort.grow]
 rw [Array.getElem?_append_left (by rw [hs]; exact hi)]
abbrev iN (w : World) : Prop := Lib.TabBelow vx w.heap.size w "internal/strconv.uint64pow10" .u64 Lib.pow10Tab
theorem iN.is {w : World} (h : iN w) : Lib.TabIs vx w "internal/strconv.uint64pow10" .u64 Lib.pow10Tab := h w (Below.refl _ _)
theorem iN.then {w w' : World} (h:iN w) (hb:Below w.heap.size w w'):iN w':=fun w'' h''=>h w'' (hb.trans (h''.mono hb.size))
theorem iN.at {w:World} (h:iN w) (q:ap w.heap.size w):iN q.val:=h.then q.below
theorem dw (n:Int) (w:World) (h0 : -9223372036854775808≤n) (h1:n≤9223372036854775807) (ht:iN w) :
  Calls vx 69 #[O U n] w fun e w'=>e=.returned (vw ⟨(Lib.itoa n).toArray⟩)∧Below w.heap.size w w' :=
 (Tryz.strconv_Itoa n h0 h1 w ht.is).mono fun e w' ⟨he,k,os,hw⟩=>⟨he,by rw [hw]; exact ro w k os⟩
end Go.Proofs.YtoeoimhemojdeaaGreatDoor
namespace Go.Proofs.YtoeoimhemojdeaaGreatDoor
def dx (b:UInt8):List UInt8→List UInt8→List (List UInt8)
 | cur,[]=>[cur]
 | cur,x :: l=>if x=b then cur :: dx b [] l else dx b (cur++[x]) l
def aK (b:UInt8) (s:List UInt8):List (List UInt8):=dx b [] s
theorem nz {b:UInt8} : ∀ {l cur:List UInt8},b ∉ l→dx b cur l = [cur++l]
 | [],_,_=>by simp [dx]
 | x :: l,cur,h=>by
  simp only [List.mem_cons,not_or] at h
  rw [dx,if_neg (Ne.symm h.1),nz h.2]; simp
theorem oK {b:UInt8} {r:List UInt8} : ∀ {t cur:List UInt8},b ∉ t→dx b cur (t++b :: r)=(cur++t) :: dx b [] r
 | [],_,_=>by simp [dx]
 | x :: t,cur,h=>by
  simp only [List.mem_cons,not_or] at h
  rw [List.cons_append,dx,if_neg (Ne.symm h.1),oK h.2]; simp
theorem jn {b:UInt8} {l:List UInt8} (h:b ∉ l):aK b l = [l]:=by unfold aK; rw [nz h]; rfl
theorem oL {b:UInt8} {t r:List UInt8} (h:b ∉ t):aK b (t++b :: r)=t :: aK b r:=by unfold aK; rw [oK h]; rfl
theorem lp (b:UInt8):∀ (l cur:List UInt8),dx b cur l ≠ []
 | [],_=>by simp [dx]
 | x :: l,cur=>by
  unfold dx; split
  ·simp
  ·exact lp b l _
theorem gn (b:UInt8):∀ (l cur:List UInt8),(dx b cur l).length≤l.length+1
 | [],_=>by simp [dx]
 | x :: l,cur=>by
  unfold dx; split
  ·have:=gn b l []; simp; omega
  ·have:=gn b l (cur++[x]); simp; omega
theorem lQ {b:UInt8} {t:List UInt8} : ∀ (l cur:List UInt8),t ∈ dx b cur l→t.length≤cur.length+l.length
 | [],cur,h=>by simp only [dx,List.mem_singleton] at h; subst h; simp
 | x :: l,cur,h=>by
  unfold dx at h; split at h
  ·rcases List.mem_cons.1 h with h | h
   ·subst h; omega
   ·have:=lQ l [] h; simp at this ⊢; omega
  ·have:=lQ l _ h; simp at this ⊢; omega
theorem gp (b:UInt8) (s:List UInt8):∃ ps,aK b s=cw b s :: ps∧(ps = [] ↔ b ∉ s):=by
 rcases jM b s with ⟨h1,h2⟩ | ⟨r,h⟩
 ·exact ⟨[],by rw [jn h1,h2],by simp [h1]⟩
 ·refine ⟨aK b r, ?_, ?_⟩
  ·have h1:=oL (r:=r) (fy b s)
   rw [← h] at h1; exact h1
  ·constructor
   ·intro e; exact absurd e (lp b r [])
   ·intro hn; exact absurd (by rw [h]; simp) hn
end Go.Proofs.YtoeoimhemojdeaaGreatDoor
namespace Go.Proofs.YtoeoimhemojdeaaGreatDoor
open Go.RowKit
def f9 (n:Int):Oc:=if cc n 1 9999 then ⟨[⟨1,n⟩],[],n,0,0⟩ else Oc.zero
end Go.Proofs.YtoeoimhemojdeaaGreatDoor
