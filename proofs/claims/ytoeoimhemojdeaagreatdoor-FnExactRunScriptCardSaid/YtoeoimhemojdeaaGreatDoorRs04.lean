/- Rs04: the texts StepD Facts FactsT SpecOwn FactsN FactsR OffHeld StepOps, joined into one file. -/
import Derived.WalkKit
import Derived.Orders
import Derived.Deep.Draws
import Derived.Deep.RegionLawGrows
import Derived.Test.YtoeoimhemojdeaaGreatDoorRs02
import Derived.Test.YtoeoimhemojdeaaGreatDoorRs03

set_option linter.unusedVariables false
open Go.Value renaming int → O, slice → F, string → uk
open Go.IntKind renaming i64 → U

namespace Go.Proofs.YtoeoimhemojdeaaGreatDoor
open Go.RowKit
def Oc.fin (r:Oc):Option Oc:=if r.good then some r else none
def ba (y:Oc) (s:dW):Option Oc :=
 if s.kind=1 then Oc.fin { y with t:=ai y.t s.stamp s.value,got:=y.got+s.value }
 else if ¬ 0≤au y.t s.stamp then none
 else if s.kind=2 then Oc.fin { y with t:=ai y.t s.stamp (-s.value),o:=dX s.stamp s.person s.value y.o }
 else if aJ s.stamp s.person y.o=0∧0 < s.person then none
 else if s.kind=3 then Oc.fin { y with t:=ai y.t s.stamp s.value,o:=dX s.stamp s.person (-s.value) y.o }
 else if s.kind=4 then (if s.person=0 then Oc.fin { y with t:=ai y.t s.stamp (-s.value),sold:=y.sold+s.value } else Oc.fin { y with o:=dX s.stamp s.person (-s.value) y.o,sold:=y.sold+s.value })
 else if s.kind=5 then Oc.fin { y with o:=dX s.stamp s.person (-aJ s.stamp s.person y.o) y.o,missed:=y.missed+aJ s.stamp s.person y.o }
 else Oc.fin { y with o:=dX s.stamp s.value (aJ s.stamp s.person y.o) (dX s.stamp s.person (-aJ s.stamp s.person y.o) y.o) }
def Oc.zero:Oc:=⟨[],[],0,0,0⟩
def cH (R:Option Oc):Oc:=R.getD Oc.zero
def aB (w:World) (R:Option Oc) (e:Ending) (w' : World):Prop :=
 ∃ TA tc OA oc,e=.returned (.tuple #[aL.val ((cH R).at TA tc OA oc),.bool R.isSome])∧w'.ownsRow w.heap.size 104 2 (F TA (cH R).t.length tc) (cH R).t.length ((cH R).t.flatMap ap.enc) ∧
  w'.ownsRow w.heap.size 147 3 (F OA (cH R).o.length oc) (cH R).o.length ((cH R).o.flatMap ae.enc)∧Below w.heap.size w w'
theorem aB.no {w w' : World} {e:Ending} (he:e=.returned (.tuple #[.agg #[F none 0 0,F none 0 0,O U 0,O U 0,O U 0],.bool false])) (hb:Below w.heap.size w w'):aB w none e w' :=
 ⟨none,0,none,0,he,World.ownsRow_nil _ _ _ _,World.ownsRow_nil _ _ _ _,hb⟩
theorem aB.yes {w w' : World} {e:Ending} {r:Oc} {A1 A2:Option Addr} {a1 a2:Nat} (he:e=.returned (.tuple #[.agg #[F A1 r.t.length a1,F A2 r.o.length a2,O U r.got,O U r.sold,O U r.missed],.bool true]))
  (h8:w'.ownsRow w.heap.size 104 2 (F A1 r.t.length a1) r.t.length (r.t.flatMap ap.enc)) (h9:w'.ownsRow w.heap.size 147 3 (F A2 r.o.length a2) r.o.length (r.o.flatMap ae.enc)) (hb:Below w.heap.size w w'):aB w (some r) e w' :=
 ⟨A1,a1,A2,a2,he,h8,h9,hb⟩
theorem az.at_ {w:World} {B g:Nat} {A1 A2:Option Addr} {c1 c2:Nat} {y:Oc} (h:az w B g (F A1 y.t.length c1) (F A2 y.o.length c2) y):bX w w.heap.size g (y.at A1 c1 A2 c2) :=
 bX.of (x:=y.at A1 c1 A2 c2) h.lies ⟨aA h.t,aA h.o⟩
theorem az.form {w:World} {B g:Nat} {vt vo:Value} {y:Oc} (h:az w B g vt vo y):∃ A1 c1 A2 c2,vt=F A1 y.t.length c1∧vo=F A2 y.o.length c2:=by
 obtain ⟨A1,c1,h1⟩:=av h.t
 obtain ⟨A2,c2,h2⟩:=av h.o
 exact ⟨A1,c1,A2,c2,h1,h2⟩
theorem sN (t:ae) (gs:Nat) (kd st pe va:Int) (w:World) (hL:ah w gs 112 [O U kd,O U st,O U pe,O U va]) :
  Calls Tryz.prog 215 (#[t.val]++#[.pointer (some ⟨gs,0,none⟩)]) w fun e w'=>e=.returned (.bool (eu st pe t))∧Below w.heap.size w w':=by
 show Calls Tryz.prog 215 #[t.val,.pointer (some ⟨gs,0,none⟩)] w _
 have b1:=(Below.refl w.heap.size w).alloc (Nat.le_refl _) (.cells #[O U t.k,O U t.p,O U t.c] 147)
 have c1:∀ r:an w.heap.size w,r.val.cell? ⟨gs,1,none⟩=some (O U st):=fun r=>(r.cell hL.lt).trans (hL.cell 1)
 have c2:∀ r:an w.heap.size w,r.val.cell? ⟨gs,2,none⟩=some (O U pe):=fun r=>(r.cell hL.lt).trans (hL.cell 2)
 have HI:Hid (eu st pe t=(decide (t.k=st) && decide (t.p=pe))):=rfl
 have hL0:=ah.new w 147 #[O U t.k,O U t.p,O U t.c]
 obtain ⟨q,hq⟩ : ∃ q:an w.heap.size w,w.alloc (.cells #[O U t.k,O U t.p,O U t.c] 147)=q.val:=⟨⟨_,b1⟩,rfl⟩
 rw [hq] at hL0
 have d0:=hL0.cell 0
 have d1:=hL0.cell 1
 simp only [List.getElem?_cons_zero,List.getElem?_cons_succ] at d0 d1
 have hq0:=q.below.size
 by_cases h1:t.k=st
 ·have v1:(t.k == st)=true:=by simp [h1]
  have H1:=Lib.hid h1; clear h1
  by_cases h2:t.p=pe
  ·have v2:(t.p == pe)=true:=by simp [h2]
   have H2:=Lib.hid h2; clear h2
   go_enter Tryz.func215,Tryz.ntmps215
   go_wp2_with (rw [hq])
   all_goals go_ret
   all_goals exact ⟨by rw [HI.out,decide_eq_true H1.out,decide_eq_true H2.out]; rfl,q.below⟩
  ·have v2:(t.p == pe)=false:=by simp [h2]
   have H2:=Lib.hid h2; clear h2
   go_enter Tryz.func215,Tryz.ntmps215
   go_wp2_with (rw [hq])
   all_goals go_ret
   all_goals exact ⟨by rw [HI.out,decide_eq_true H1.out,decide_eq_false H2.out]; rfl,q.below⟩
 ·have v1:(t.k == st)=false:=by simp [h1]
  have H1:=Lib.hid h1; clear h1
  go_enter Tryz.func215,Tryz.ntmps215
  go_wp2_with (rw [hq])
  all_goals go_ret
  all_goals exact ⟨by rw [HI.out,decide_eq_false H1.out]; rfl,q.below⟩
theorem qd (t:ap) (kd:Int) (w:World):Calls Tryz.prog 213 (#[t.val,O U kd]++#[]) w fun e w'=>e=.returned (O U (gH t.k kd))∧Below w.heap.size w w':=by
 show Calls Tryz.prog 213 #[t.val,O U kd] w _
 have b1:=(Below.refl w.heap.size w).alloc (Nat.le_refl _) (.cells #[O U t.k,O U t.c] 104)
 have hc:=fun W=>i7 t.k kd W
 go_enter Tryz.func213,Tryz.ntmps213
 go_wp2_with fail
 refine (hc _).mono ?_
 rintro e w' ⟨rfl,rfl⟩
 go_wp2
 go_ret
 exact ⟨rfl,b1⟩
theorem gw {ts:List ap} {kd n:Int} {i:Nat} (h:au ts kd=i) (hi:i < ts.length):ai ts kd n=ts.set i ⟨ts[i].k,ts[i].c+n⟩:=by
 unfold ai
 rw [h,if_pos (by omega),Int.toNat_natCast,List.getD_eq_getElem?_getD,List.getElem?_eq_getElem hi]; rfl
theorem az.setT {w:World} {B g gT cT i:Nat} {vo:Value} {y:Oc} (h:az w B g (F (some ⟨gT,0,none⟩) y.t.length cT) vo y) (hi:i < y.t.length) (c:Int) :
  az (w.setCell ⟨gT,i * 2+1,none⟩ (O U c)) B g (F (some ⟨gT,0,none⟩) y.t.length cT) vo { y with t:=y.t.set i ⟨y.t[i].k,c⟩ }∧Below B w (w.setCell ⟨gT,i * 2+1,none⟩ (O U c))∧w.cell? ⟨gT,i * 2+1,none⟩=some (O U y.t[i].c)∧w.frozen? ⟨gT,i * 2+1,none⟩=false:=by
 have hj:i * 2+1 < y.t.length * 2:=by omega
 have hB:B≤gT:=(h.t.lt gT rfl).1
 have hlt:gT < w.heap.size:=(h.t.lt gT rfl).2
 have hg:gT ≠ g:=fun e=>h.ne_t (by rw [← e]; rfl)
 have ht:=lC h.t (i * 2+1) (O U c) hj
 rw [ru hi] at ht
 have hgr:w.grownBy (w.setCell ⟨gT,i * 2+1,none⟩ (O U c)) (some gT):=ab (World.grownBy.refl w (some gT))
 refine ⟨⟨h.lies.other (p:=⟨gT,i * 2+1,none⟩) (fun e=>hg e.symm) _,h.hg,by simpa using ht,ej (v':=F (some ⟨gT,0,none⟩) y.t.length cT) h.o h.t (Ne.symm qR) hgr⟩, ?_, ?_,h.t.frozenAt _⟩
 ·exact (Below.refl B w).grown hgr (Nat.le_of_lt (Nat.lt_of_le_of_lt hB hlt)) (by rintro _ ⟨⟩; exact hB)
 ·rw [h.t.cellAt _ hj,jj ap.enc 2 ap.enc_len y.t i hi 1 (by omega)]; rfl
theorem az.setT' {w:World} {B g gT cT i:Nat} {vo:Value} {y:Oc} (h:az w B g (F (some ⟨gT,0,none⟩) y.t.length cT) vo y) (hi:i < y.t.length) (tr:ap) (htr:y.t[i]=tr) (c:Int) :
  az (w.setCell ⟨gT,i * 2+1,none⟩ (O U c)) B g (F (some ⟨gT,0,none⟩) y.t.length cT) vo { y with t:=y.t.set i ⟨tr.k,c⟩ }∧Below B w (w.setCell ⟨gT,i * 2+1,none⟩ (O U c))∧w.cell? ⟨gT,i * 2+1,none⟩=some (O U tr.c)∧w.frozen? ⟨gT,i * 2+1,none⟩=false:=by
 subst htr; exact h.setT hi c
theorem az.setN {w:World} {B g:Nat} {vt vo:Value} {y:Oc} (h:az w B g vt vo y) (c:Int) :
  az (w.setCell ⟨g,2,none⟩ (O U c)) B g vt vo { y with got:=c }∧az (w.setCell ⟨g,3,none⟩ (O U c)) B g vt vo { y with sold:=c }∧az (w.setCell ⟨g,4,none⟩ (O U c)) B g vt vo { y with missed:=c } :=
 ⟨⟨h.lies.set 2 _,h.hg,aF h.t h.lies eE 2 _,aF h.o h.lies ep 2 _⟩,⟨h.lies.set 3 _,h.hg,aF h.t h.lies eE 3 _,aF h.o h.lies ep 3 _⟩,⟨h.lies.set 4 _,h.hg,aF h.t h.lies eE 4 _,aF h.o h.lies ep 4 _⟩⟩
theorem az.belowN {w:World} {B g:Nat} {vt vo:Value} {y:Oc} (h:az w B g vt vo y) (i:Nat) (u:Value):Below B w (w.setCell ⟨g,i,none⟩ u) :=
 (Below.refl B w).grown (ab (World.grownBy.refl w (some g))) (Nat.le_of_lt (Nat.lt_of_le_of_lt h.hg h.lies.lt)) (by rintro _ ⟨⟩; exact h.hg)
theorem bo.asc {x:aL} (h:bo x):mZ x.o:=(j9 x.t x.o none h.os).1
theorem bo.at_ {x:aL} (h:bo x) (st pe:Int):aS (eu st pe) x.o=aJ st pe x.o:=by
 have:=kL (k:=st) (p:=pe) x.o 0 h.asc
 rwa [Int.zero_add] at this
theorem bo.at_bd {x:aL} (h:bo x) (st pe:Int):0≤aJ st pe x.o∧aJ st pe x.o≤9999:=by
 rcases kK (k:=st) (p:=pe) x.o with h0 | ⟨o,ho,_,hc⟩
 ·omega
 ·obtain ⟨j,hj,rfl⟩:=List.getElem_of_mem ho
  have:=(ae.bounds (h.oall j hj)).2.2
  omega
theorem bo.oc {x:aL} (h:bo x):∀ o ∈ x.o, -1000000000≤o.c∧o.c≤1000000000:=fun o ho=>by
 obtain ⟨j,hj,rfl⟩:=List.getElem_of_mem ho
 have:=(ae.bounds (h.oall j hj)).2.2
 omega
theorem cZ {B g gs:Nat} {x:aL} {kd st pe va:Int} {w:World} (hL:ah w gs 112 [O U kd,O U st,O U pe,O U va]) (hA:bX w w.heap.size g x) (G:bo x) (_hB:B≤w.heap.size) :
  Calls Tryz.prog 120 #[.pointer (some ⟨g,0,none⟩),.func (.func 215) #[] #[.pointer (some ⟨gs,0,none⟩)]] w fun e w'=>e=.returned (O U (aJ st pe x.o))∧Below w.heap.size w w':=by
 have:=eG (eu st pe) 215 #[.pointer (some ⟨gs,0,none⟩)] Tryz.call215 x g w (fun o p=>sN o gs kd st pe va p.val (hL.below p.below hL.lt)) hA G.ol G.oall
 rwa [G.at_] at this
theorem az.setTs {w w' : World} {B g:Nat} {vt vt' vo:Value} {y:Oc} {ts:List ap} (h:az w B g vt vo y) (hg:w.grownBy w' vt.ownBlock) (ht:w'.ownsRow B 104 2 vt' ts.length (ts.flatMap ap.enc)) :
  az (w'.setCell ⟨g,0,none⟩ vt') B g vt' vo { y with t:=ts }:=by
 have hL:ah w' g 40 _:=h.lies.kept hg (fun e=>h.ne_t e.symm)
 have ho:=ej h.o h.t (Ne.symm qR) hg
 exact ⟨hL.set 0 vt',h.hg,aF ht hL eE 0 vt',aF ho hL ep 0 vt'⟩
theorem qT {a b:Int} : gH a b < 0 ↔ a < b:=by
 unfold gH; split
 ·simp [*]
 ·split <;> simp [*]
theorem rv {a b:Int} : gH a b=0 ↔ a=b:=by
 unfold gH; split
 ·simp; omega
 ·split
  ·simp; omega
  ·simp; omega
theorem bo.ascT {x:aL} (h:bo x):ug x.t:=(jB x.t 0 0 h.ts).1
theorem qe (ts:List ap) (kd:Int):∃ h:cK ts kd < (dy ts kd).length,(dy ts kd)[cK ts kd]=⟨kd,0⟩:=by
 have hl:(ts.take (cK ts kd)).length=cK ts kd:=by rw [List.length_take,Nat.min_eq_left (jl ts kd)]
 have h:(dy ts kd)[cK ts kd]?=some ⟨kd,0⟩:=by
  unfold dy; rw [List.getElem?_append_right (by omega),hl,Nat.sub_self]; rfl
 exact List.getElem?_eq_some_iff.1 h
theorem o4 (ts:List ap) (kd:Int):(dy ts kd).length=ts.length+1:=by
 have:=jl ts kd
 unfold dy; simp; omega
section
variable {P:Program} {ops:Array Oper} {Q:Exit→Act→World→Prop} {md:Region.Mode}
def aw (vs:Nat→Value):List Oper→Nat→Act→Act
 | [],_,a=>a
 | o :: l,k,a=>aw vs l (k+1) (a.put o.dst (vs k))
def dI:List Oper→Bool
 | []=>true
 | o :: l=>l.all (fun p=>match o.dst with | none=>true | some d=>p.dst != some d) && dI l
def pN (vs:Nat→Value) (i:Nat) (v:Value):Nat→Value:=fun j=>if j=i then v else vs j
theorem lD (vs:Nat→Value) {d:Option Tmp} {v:Value} : ∀ (l:List Oper) (k:Nat) (a:Act),(∀ p ∈ l,∀ t,d=some t→p.dst ≠ some t)→(aw vs l k a).put d v=aw vs l k (a.put d v)
 | [],_,_,_=>rfl
 | o :: l,k,a,h=>by
  unfold aw
  rw [lD vs l (k+1) _ (fun p hp=>h p (List.mem_cons_of_mem _ hp))]
  rw [Act.put_comm a (vs k) v (x:=o.dst) (y:=d) (fun t ht hd=>h o (by simp) t hd ht)]
theorem jD {vs vs' : Nat→Value} : ∀ (l:List Oper) (k:Nat) (a:Act),(∀ j,k≤j→vs j=vs' j)→aw vs l k a=aw vs' l k a
 | [],_,_,_=>rfl
 | o :: l,k,a,h=>by
  unfold aw
  rw [h k (Nat.le_refl _),jD l (k+1) _ (fun j hj=>h j (by omega))]
theorem Act.put_put (a:Act) (d:Option Tmp) (u v:Value):(a.put d u).put d v=a.put d v:=by
 cases d with
 | none=>rfl
 | some d =>
  simp only [Act.put]
  congr 1
  apply Array.ext (by simp)
  intro i h1 h2
  simp
theorem gR:∀ (l:List Oper) (k:Nat) (a:Act) (vs:Nat→Value) (i:Nat) (o:Oper) (v:Value),dI l=true→l[i]?=some o →
  (aw vs l k a).put o.dst v=aw (pN vs (k+i) v) l k a
 | [],_,_,_,_,_,_,_,h=>by simp at h
 | p :: l,k,a,vs,0,o,v,hd,h=>by
  simp only [List.getElem?_cons_zero,Option.some.injEq] at h; subst h
  simp only [dI,Bool.and_eq_true,List.all_eq_true] at hd
  unfold aw
  rw [lD vs l (k+1) _ (fun q hq t ht=>by
   have:=hd.1 q hq; rw [ht] at this; simpa using this),Act.put_put]
  rw [jD (vs:=vs) (vs':=pN vs (k+0) v) l (k+1) _ (fun j hj=>by unfold pN; rw [if_neg (by omega)])]
  congr 2
  simp [pN]
 | p :: l,k,a,vs,i+1,o,v,hd,h=>by
  simp only [dI,Bool.and_eq_true] at hd
  unfold aw
  rw [gR l (k+1) _ vs i o v hd.2 (by simpa using h)]
  have:k+1+i=k+(i+1):=by omega
  rw [this]
  congr 2
  unfold pN; rw [if_neg (by omega)]
theorem Act.put_self (a:Act) (t:Tmp) (u:Value):a.put (some t) (a.tmps.getD t u)=a:=by
 simp only [Act.put]
 obtain ⟨tmps,defers⟩:=a
 congr 1
 apply Array.ext_getElem?
 intro i
 by_cases e:t=i
 ·subst e
  by_cases h2:t < tmps.size
  ·simp [h2]
  ·simp [h2]
 ·rw [Array.getElem?_setIfInBounds_ne e]
theorem fV (vs:Nat→Value):∀ (l:List Oper) (k:Nat) (a:Act),(∀ i o t,l[i]?=some o→o.dst=some t→vs (k+i)=a.tmps.getD t undef)→aw vs l k a=a
 | [],_,_,_=>rfl
 | o :: l,k,a,h=>by
  unfold aw
  have e:a.put o.dst (vs k)=a:=by
   cases hd:o.dst with
   | none=>rfl
   | some t =>
    have h0:=h 0 o t (by simp) hd
    rw [Nat.add_zero] at h0
    rw [h0,Act.put_self]
  rw [e]
  exact fV vs l (k+1) a (fun i o' t h1 h2=>by
   have:=h (i+1) o' t (by simpa using h1) h2
   rwa [show k+(i+1)=k+1+i by omega] at this)
def bG (md:Region.Mode) (ops:Array Oper):Nat→Nat→Nat→Bool
 | 0,_,_=>false
 | fuel+1,k,j=>match ops[k]? with
  | none=>false
  | some o=>o.after.any fun e=>Region.binds md e && (e.on == j || bG md ops fuel e.on j)
def eW (md:Region.Mode) (ops:Array Oper):Bool :=
 (List.range ops.size).all fun k=>match ops[k]? with
  | none=>true
  | some o=>o.after.all fun e=>!Region.binds md e || decide (e.on < k)
def nY (md:Region.Mode) (ops:Array Oper) (listed:Array Bool):Prop :=
 ∀ j o,ops[j]?=some o→listed.getD j false=true→∀ e ∈ o.after,Region.binds md e=true→listed.getD e.on false=true
theorem ce {listed:Array Bool} (hc:nY md ops listed):∀ (fuel k j:Nat),(∀ o,ops[k]?=some o→∀ e ∈ o.after,Region.binds md e=true→listed.getD e.on false=true)→bG md ops fuel k j=true→listed.getD j false=true
 | 0,_,_,_,h=>by simp [bG] at h
 | fuel+1,k,j,hk,h=>by
  unfold bG at h
  cases ho:ops[k]? with
  | none=>simp [ho] at h
  | some o =>
   simp only [ho] at h
   obtain ⟨e,he,hb⟩:=Array.any_eq_true'.1 h
   simp only [Bool.and_eq_true,Bool.or_eq_true,beq_iff_eq] at hb
   have h1:=hk o ho e he hb.1
   rcases hb.2 with h2 | h2
   ·rw [← h2]; exact h1
   ·exact ce hc fuel e.on j (fun o' ho'=>hc e.on o' ho' h1) h2
def gS (P:Program) (ops:Array Oper) (Q:Exit→Act→World→Prop) (C:World→Prop) (T:World→World→Prop) (fr:(Nat→Value)→Act):Nat→List Oper→List (Value→World→Prop)→Prop
 | _,[],Rs=>∀ vs w,C w→(∀ (j:Nat) (R:Value→World→Prop),Rs[j]?=some R→R (vs j) w)→Q .normal (fr vs) w
 | k,o :: l,Rs=>∃ R:Value→World→Prop,(∀ v w w',R v w→T w w'→R v w') ∧
  (∀ vs w,C w→(∀ (j:Nat) (R' : Value→World→Prop),bG .any ops ops.size k j=true→Rs[j]?=some R'→R' (vs j) w)→∀ K:Act→World→Prop,(∀ a' v w',a'=(fr vs).put o.dst v→R v w'→C w'→T w w'→K a' w') →
   if Region.wanted o (yielded ops (fr vs).tmps)=true then o.wp P (fr vs) w K Q else K ((fr vs).put o.dst undef) w) ∧
  gS P ops Q C T fr (k+1) l (Rs++[R])
theorem lE {C:World→Prop} {T:World→World→Prop} {fr:(Nat→Value)→Act} : ∀ (l:List Oper) (k:Nat) (Rs:List (Value→World→Prop)),(∀ i,l[i]?=ops[k+i]?)→Rs.length=k →
  (∀ (j:Nat) (R:Value→World→Prop),Rs[j]?=some R→∀ v w w',R v w→T w w'→R v w') →
  (∀ (j:Nat) (o:Oper) (R:Value→World→Prop),j < k→ops[j]?=some o→Rs[j]?=some R→∀ vs w,C w→(∀ (j' : Nat) (R' : Value→World→Prop),bG .any ops ops.size j j'=true→j' < j→Rs[j']?=some R'→R' (vs j') w)→∀ K:Act→World→Prop,(∀ a' v w',a'=(fr vs).put o.dst v→R v w'→C w'→T w w'→K a' w') →
   if Region.wanted o (yielded ops (fr vs).tmps)=true then o.wp P (fr vs) w K Q else K ((fr vs).put o.dst undef) w) →
  gS P ops Q C T fr k l Rs →
  ∃ Rs' : List (Value→World→Prop),Rs'.length=k+l.length∧(∀ (j:Nat) (R:Value→World→Prop),Rs'[j]?=some R→∀ v w w',R v w→T w w'→R v w') ∧
  (∀ (j:Nat) (o:Oper) (R:Value→World→Prop),ops[j]?=some o→Rs'[j]?=some R→∀ vs w,C w→(∀ (j' : Nat) (R' : Value→World→Prop),bG .any ops ops.size j j'=true→j' < j→Rs'[j']?=some R'→R' (vs j') w)→∀ K:Act→World→Prop,(∀ a' v w',a'=(fr vs).put o.dst v→R v w'→C w'→T w w'→K a' w') →
   if Region.wanted o (yielded ops (fr vs).tmps)=true then o.wp P (fr vs) w K Q else K ((fr vs).put o.dst undef) w) ∧
  (∀ vs w,C w→(∀ (j:Nat) (R:Value→World→Prop),Rs'[j]?=some R→R (vs j) w)→Q .normal (fr vs) w)
 | [],k,Rs,hl,hlen,hst,hop,h=>by
  refine ⟨Rs,by simpa using hlen,hst,fun j o R ho hR=>hop j o R ?_ ho hR,h⟩
  rw [← hlen]; exact (List.getElem?_eq_some_iff.1 hR).1
 | o :: l,k,Rs,hl,hlen,hst,hop,h=>by
  obtain ⟨R,hRs,hRo,hrest⟩:=h
  have ho:ops[k]?=some o:=by simpa using (hl 0).symm
  have hold:∀ j,j < k→(Rs++[R])[j]?=Rs[j]?:=fun j hj=>List.getElem?_append_left (by omega)
  have hnew:(Rs++[R])[k]?=some R:=by rw [List.getElem?_append_right (by omega),hlen]; simp
  obtain ⟨Rs',h1,h2,h3,h4⟩:=lE l (k+1) (Rs++[R]) (fun i=>by have:=hl (i+1); simpa [Nat.add_assoc,Nat.add_comm 1 i] using this) (by simp [hlen])
   (fun j R' hR'=>by
    rcases Nat.lt_trichotomy j k with hj | hj | hj
    ·rw [hold j hj] at hR'; exact hst j R' hR'
    ·subst hj; rw [hnew] at hR'; cases hR'; exact hRs
    ·rw [List.getElem?_eq_none (by simp [hlen]; omega)] at hR'; cases hR')
   (fun j o' R' hj ho' hR' vs w hC hB K hK=>by
    rcases Nat.lt_or_ge j k with hjk | hjk
    ·rw [hold j hjk] at hR'
     exact hop j o' R' hjk ho' hR' vs w hC (fun j' R'' ha hlt h''=>hB j' R'' ha hlt (by rw [hold j' (by omega)]; exact h'')) K hK
    ·obtain rfl:j=k:=by omega
     rw [ho] at ho'; cases ho'
     rw [hnew] at hR'; cases hR'
     refine hRo vs w hC (fun j' R'' ha h''=>?_) K hK
     have hlt:j' < Rs.length:=(List.getElem?_eq_some_iff.1 h'').1
     exact hB j' R'' ha (by omega) (by rw [hold j' (by omega)]; exact h''))
   hrest
  exact ⟨Rs',by rw [h1]; simp; omega,h2,h3,h4⟩
theorem fW {listed:Array Bool} (hdn:eW .any ops=true) (hsz:listed.size=ops.size) (hr:Region.ready .any ops listed = []):∀ j,j < ops.size→listed.getD j false=true:=by
 intro j
 induction j using Nat.strongRecOn with
 | ind j ih =>
  intro hj
  rcases hb:listed.getD j false with _ | _
  ·exfalso
   have hmem:j ∈ Region.ready .any ops listed:=by
    rw [mem_ready]
    refine ⟨?_,ops[j],Array.getElem?_eq_getElem hj,fun e he hbd=>?_⟩
    ·have:j < listed.size:=by omega
     simp only [Array.getD,this,↓reduceDIte] at hb ⊢
     exact hb
    ·have h1:=List.all_eq_true.1 hdn j (List.mem_range.2 hj)
     rw [Array.getElem?_eq_getElem hj] at h1
     have h2:=Array.all_eq_true_iff_forall_mem.1 h1 e he
     simp only [hbd,Bool.not_true,Bool.false_or,decide_eq_true_eq] at h2
     exact ih e.on h2 (by omega)
   rw [hr] at hmem; cases hmem
  ·rfl
def dU (n:Nat) (listed:Array Bool):Nat:=((List.range n).filter fun j=>!listed.getD j false).length
theorem ez {n i:Nat} {listed:Array Bool} (hi:i < n) (hs:listed.size=n) (h:listed.getD i false=false):dU n (listed.setIfInBounds i true) < dU n listed:=by
 unfold dU
 have e:∀ l:List Nat,(l.filter fun j=>!(listed.setIfInBounds i true).getD j false)=(l.filter fun j=>!listed.getD j false).filter (fun j=>j != i):=by
  intro l
  rw [List.filter_filter]
  apply List.filter_congr
  intro j _
  by_cases hji:j=i
  ·subst hji; have:j < listed.size:=by omega
   simp [this]
  ·rw [getD_set_ne false (Ne.symm hji)]; simp [hji]
 rw [e]
 have hm:i ∈ (List.range n).filter fun j=>!listed.getD j false:=List.mem_filter.2 ⟨List.mem_range.2 hi,by rw [h]; rfl⟩
 generalize (List.range n).filter (fun j=>!listed.getD j false)=l at hm
 clear e
 induction l with
 | nil=>cases hm
 | cons x l ih =>
  rw [List.filter_cons]
  split
  ·rename_i hx
   rcases List.mem_cons.1 hm with h' | h'
   ·simp [h'] at hx
   ·simpa using ih h'
  ·exact Nat.lt_succ_of_le (List.length_filter_le _ _)
theorem o5 {C:World→Prop} {T:World→World→Prop} {a₀:Act} (hap:dI ops.toList=true) (hdn:eW .any ops=true) (Rs:List (Value→World→Prop)) (hlen:Rs.length=ops.size)
  (hst:∀ (j:Nat) (R:Value→World→Prop),Rs[j]?=some R→∀ v w w',R v w→T w w'→R v w')
  (hop:∀ (j:Nat) (o:Oper) (R:Value→World→Prop),ops[j]?=some o→Rs[j]?=some R→∀ vs w,C w→(∀ (j' : Nat) (R' : Value→World→Prop),bG .any ops ops.size j j'=true→j' < j→Rs[j']?=some R'→R' (vs j') w)→∀ K:Act→World→Prop,(∀ a' v w',a'=(aw vs ops.toList 0 a₀).put o.dst v→R v w'→C w'→T w w'→K a' w') →
   if Region.wanted o (yielded ops (aw vs ops.toList 0 a₀).tmps)=true then o.wp P (aw vs ops.toList 0 a₀) w K Q else K ((aw vs ops.toList 0 a₀).put o.dst undef) w)
  (hend:∀ vs w,C w→(∀ (j:Nat) (R:Value→World→Prop),Rs[j]?=some R→R (vs j) w)→Q .normal (aw vs ops.toList 0 a₀) w) :
  ∀ (fuel:Nat) (listed:Array Bool) (vs:Nat→Value) (w:World),listed.size=ops.size→dU ops.size listed≤fuel→nY .any ops listed→C w→(∀ (j:Nat) (R:Value→World→Prop),listed.getD j false=true→Rs[j]?=some R→R (vs j) w) →
   wpAny P .any ops Q fuel listed (aw vs ops.toList 0 a₀) w:=by
 have hfin:∀ (listed:Array Bool) (vs:Nat→Value) (w:World),listed.size=ops.size→C w→(∀ (j:Nat) (R:Value→World→Prop),listed.getD j false=true→Rs[j]?=some R→R (vs j) w)→Region.ready .any ops listed = []→Q .normal (aw vs ops.toList 0 a₀) w :=
  fun listed vs w hs hC hR hr=>hend vs w hC fun j R hj=>hR j R (fW hdn hs hr j (by rw [← hlen]; exact (List.getElem?_eq_some_iff.1 hj).1)) hj
 intro fuel
 induction fuel with
 | zero =>
  intro listed vs w hs hu hcl hC hR
  have hr:Region.ready .any ops listed = []:=by
   rw [List.eq_nil_iff_forall_not_mem]
   intro j hj
   obtain ⟨h0,o,ho,_⟩:=mem_ready.1 hj
   have hjs:j < ops.size:=(Array.getElem?_eq_some_iff.1 ho).1
   have:dU ops.size (listed.setIfInBounds j true) < dU ops.size listed:=ez hjs hs (by
    have:j < listed.size:=by omega
    simp only [Array.getD,this,↓reduceDIte] at h0 ⊢; exact h0)
   omega
  exact ⟨hr,hfin listed vs w hs hC hR hr⟩
 | succ fuel ih =>
  intro listed vs w hs hu hcl hC hR
  refine ⟨hfin listed vs w hs hC hR,fun i hi=>?_⟩
  obtain ⟨h0,o,ho,hall⟩:=mem_ready.1 hi
  have hisz:i < ops.size:=(Array.getElem?_eq_some_iff.1 ho).1
  have hil:i < listed.size:=by omega
  have h0' : listed.getD i false=false:=by simp only [Array.getD,hil,↓reduceDIte] at h0 ⊢; exact h0
  obtain ⟨R,hRi⟩ : ∃ R,Rs[i]?=some R:=⟨Rs[i]'(by omega),List.getElem?_eq_getElem (by omega)⟩
  have hstep:=hop i o R ho hRi vs w hC (fun j' R' ha _ hR'=>hR j' R' (ce hcl ops.size i j' (fun o' ho'=>by rw [ho] at ho'; cases ho'; exact hall) ha) hR')
   (wpAny P .any ops Q fuel (listed.setIfInBounds i true)) (fun a' v w' ha hRv hC' hT=>by
    rw [ha,gR ops.toList 0 a₀ vs i o v hap (by simpa using ho),Nat.zero_add]
    refine ih _ _ _ (by simpa using hs) ?_ ?_ hC' ?_
    ·have:=ez hisz hs h0'; omega
    ·intro j oj hoj hj e he hb
     by_cases hji:j=i
     ·subst hji; rw [ho] at hoj; cases hoj; exact getD_set_true (hall e he hb)
     ·rw [getD_set_ne false (Ne.symm hji)] at hj; exact getD_set_true (hcl j oj hoj hj e he hb)
    ·intro j R' hj hR'
     by_cases hji:j=i
     ·subst hji; rw [hRi] at hR'; cases hR'; simpa [pN] using hRv
     ·rw [getD_set_ne false (Ne.symm hji)] at hj
      have:=hst j R' hR' _ _ _ (hR j R' hj hR') hT
      simpa [pN,hji] using this)
  unfold wpOp
  simp only [ho]
  split
  ·rename_i hw; rw [if_pos hw] at hstep; exact .inl hstep
  ·rename_i hw; rw [if_neg hw] at hstep; exact hstep
theorem fQ {id:Nat} {a:Act} {w:World} {l:List Oper} (C:World→Prop) (T:World→World→Prop) (hm:P.follows .mixedOrders=true) (hap:dI l=true) (hdn:eW .any l.toArray=true)
  (hC:C w.drew) (h:gS P l.toArray Q C T (fun vs=>aw vs l 0 a) 0 l []):(Code.region id l.toArray true).wp P Q a w:=by
 refine wp_region_any hm ?_
 obtain ⟨Rs,h1,h2,h3,h4⟩:=lE (ops:=l.toArray) l 0 [] (by simp) rfl (by simp) (by simp) h
 obtain ⟨vs,hvs⟩ : ∃ vs:Nat→Value,∀ i o t,l[i]?=some o→o.dst=some t→vs (0+i)=a.tmps.getD t undef :=
  ⟨fun i=>match (l[i]?).bind (·.dst) with | some t=>a.tmps.getD t undef | none=>undef,fun i o t hi ht=>by simp [hi,ht]⟩
 have:=o5 (P:=P) (Q:=Q) (ops:=l.toArray) (C:=C) (T:=T) (a₀:=a) hap hdn Rs (by simpa using h1) h2 h3 h4 l.toArray.size (Array.replicate l.toArray.size false) vs w.drew (by simp)
  (Nat.le_trans (List.length_filter_le _ _) (by simp)) (fun j o hj hl=>by simp [Array.getD] at hl) hC (fun j R hl=>by simp [Array.getD] at hl)
 rwa [fV vs _ 0 a (by simpa using hvs)] at this
theorem i8 {C:World→Prop} {T:World→World→Prop} {fr:(Nat→Value)→Act} {k:Nat} {Rs:List (Value→World→Prop)} (h:∀ vs w,C w→(∀ (j:Nat) (R:Value→World→Prop),Rs[j]?=some R→R (vs j) w)→Q .normal (fr vs) w):gS P ops Q C T fr k [] Rs:=h
theorem aG {C:World→Prop} {T:World→World→Prop} {fr:(Nat→Value)→Act} {k:Nat} {o:Oper} {l:List Oper} {Rs:List (Value→World→Prop)} (V:Value)
  (h1:∀ vs w,C w→(∀ (j:Nat) (R' : Value→World→Prop),bG .any ops ops.size k j=true→Rs[j]?=some R'→R' (vs j) w)→∀ K:Act→World→Prop,(∀ a' w',a'=(fr vs).put o.dst V→C w'→T w w'→K a' w') →
   if Region.wanted o (yielded ops (fr vs).tmps)=true then o.wp P (fr vs) w K Q else K ((fr vs).put o.dst undef) w)
  (h2:gS P ops Q C T fr (k+1) l (Rs++[fun v _=>v=V])):gS P ops Q C T fr k (o :: l) Rs :=
 ⟨fun v _=>v=V,fun _ _ _ h _=>h,fun vs w hC hB K hK=>h1 vs w hC hB K fun a' w' ha hC' hT=>hK a' V w' ha rfl hC' hT,h2⟩
theorem iF {C:World→Prop} {T:World→World→Prop} {fr:(Nat→Value)→Act} {k:Nat} {o:Oper} {l:List Oper} {Rs:List (Value→World→Prop)} (R:Value→World→Prop) (hR:∀ v w w',R v w→T w w'→R v w')
  (h1:∀ vs w,C w→(∀ (j:Nat) (R' : Value→World→Prop),bG .any ops ops.size k j=true→Rs[j]?=some R'→R' (vs j) w)→∀ K:Act→World→Prop,(∀ a' v w',a'=(fr vs).put o.dst v→R v w'→C w'→T w w'→K a' w') →
   if Region.wanted o (yielded ops (fr vs).tmps)=true then o.wp P (fr vs) w K Q else K ((fr vs).put o.dst undef) w)
  (h2:gS P ops Q C T fr (k+1) l (Rs++[R])):gS P ops Q C T fr k (o :: l) Rs :=
 ⟨R,hR,h1,h2⟩
end
section
variable {P:Program} {ops:Array Oper} {Q:Exit→Act→World→Prop}
def fN (P:Program) (ops:Array Oper) (Q:Exit→Act→World→Prop) (C:World→Prop) (T:World→World→Prop) (fr:(Nat→Value)→Act):Nat→List Oper→List (Value→World→Prop)→Prop
 | _,[],_=>False
 | k,o :: l,Rs=>(l = []∧∀ vs w,C w→(∀ (j:Nat) (R:Value→World→Prop),Rs[j]?=some R→R (vs j) w)→∀ K:Act→World→Prop,(∀ a' w',Q .normal a' w'→K a' w') →
   if Region.wanted o (yielded ops (fr vs).tmps)=true then o.wp P (fr vs) w K Q else K ((fr vs).put o.dst undef) w) ∨
  (∃ R:Value→World→Prop,(∀ v w w',R v w→T w w'→R v w') ∧
  (∀ vs w,C w→(∀ (j:Nat) (R' : Value→World→Prop),bG .any ops ops.size k j=true→Rs[j]?=some R'→R' (vs j) w)→∀ K:Act→World→Prop,(∀ a' v w',a'=(fr vs).put o.dst v→R v w'→C w'→T w w'→K a' w') →
   if Region.wanted o (yielded ops (fr vs).tmps)=true then o.wp P (fr vs) w K Q else K ((fr vs).put o.dst undef) w) ∧
  fN P ops Q C T fr (k+1) l (Rs++[R]))
theorem kl {C:World→Prop} {T:World→World→Prop} {fr:(Nat→Value)→Act} : ∀ (l:List Oper) (k:Nat) (Rs:List (Value→World→Prop)),(∀ i,l[i]?=ops[k+i]?)→Rs.length=k →
  (∀ (j:Nat) (R:Value→World→Prop),Rs[j]?=some R→∀ v w w',R v w→T w w'→R v w') →
  (∀ (j:Nat) (o:Oper) (R:Value→World→Prop),j < k→ops[j]?=some o→Rs[j]?=some R→∀ vs w,C w→(∀ (j' : Nat) (R' : Value→World→Prop),bG .any ops ops.size j j'=true→j' < j→Rs[j']?=some R'→R' (vs j') w)→∀ K:Act→World→Prop,(∀ a' v w',a'=(fr vs).put o.dst v→R v w'→C w'→T w w'→K a' w') →
   if Region.wanted o (yielded ops (fr vs).tmps)=true then o.wp P (fr vs) w K Q else K ((fr vs).put o.dst undef) w) →
  fN P ops Q C T fr k l Rs →
  ∃ Rs' : List (Value→World→Prop),Rs'.length+1=ops.size∧(∀ (j:Nat) (R:Value→World→Prop),Rs'[j]?=some R→∀ v w w',R v w→T w w'→R v w') ∧
  (∀ (j:Nat) (o:Oper) (R:Value→World→Prop),ops[j]?=some o→Rs'[j]?=some R→∀ vs w,C w→(∀ (j' : Nat) (R' : Value→World→Prop),bG .any ops ops.size j j'=true→j' < j→Rs'[j']?=some R'→R' (vs j') w)→∀ K:Act→World→Prop,(∀ a' v w',a'=(fr vs).put o.dst v→R v w'→C w'→T w w'→K a' w') →
   if Region.wanted o (yielded ops (fr vs).tmps)=true then o.wp P (fr vs) w K Q else K ((fr vs).put o.dst undef) w) ∧
  (∀ o,ops[Rs'.length]?=some o→∀ vs w,C w→(∀ (j:Nat) (R:Value→World→Prop),Rs'[j]?=some R→R (vs j) w)→∀ K:Act→World→Prop,(∀ a' w',Q .normal a' w'→K a' w') →
   if Region.wanted o (yielded ops (fr vs).tmps)=true then o.wp P (fr vs) w K Q else K ((fr vs).put o.dst undef) w)
 | [],k,Rs,_,_,_,_,h=>h.elim
 | o :: l,k,Rs,hl,hlen,hst,hop,h=>by
  have ho:ops[k]?=some o:=by simpa using (hl 0).symm
  rcases h with ⟨rfl,hlast⟩ | ⟨R,hRs,hRo,hrest⟩
  ·have h1:ops[k+1]?=none:=by have:=hl 1; simpa using this.symm
   have hk:k < ops.size:=(Array.getElem?_eq_some_iff.1 ho).1
   have hk1 : ¬ k+1 < ops.size:=fun hh=>by rw [Array.getElem?_eq_getElem hh] at h1; cases h1
   refine ⟨Rs,by omega,hst,fun j o R ho hR=>hop j o R ?_ ho hR,fun o' ho'=>?_⟩
   ·rw [← hlen]; exact (List.getElem?_eq_some_iff.1 hR).1
   ·rw [hlen,ho] at ho'; cases ho'; exact hlast
  ·have hold:∀ j,j < k→(Rs++[R])[j]?=Rs[j]?:=fun j hj=>List.getElem?_append_left (by omega)
   have hnew:(Rs++[R])[k]?=some R:=by rw [List.getElem?_append_right (by omega),hlen]; simp
   exact kl l (k+1) (Rs++[R]) (fun i=>by have:=hl (i+1); simpa [Nat.add_assoc,Nat.add_comm 1 i] using this) (by simp [hlen])
    (fun j R' hR'=>by
     rcases Nat.lt_trichotomy j k with hj | hj | hj
     ·rw [hold j hj] at hR'; exact hst j R' hR'
     ·subst hj; rw [hnew] at hR'; cases hR'; exact hRs
     ·rw [List.getElem?_eq_none (by simp [hlen]; omega)] at hR'; cases hR')
    (fun j o' R' hj ho' hR' vs w hC hB K hK=>by
     rcases Nat.lt_or_ge j k with hjk | hjk
     ·rw [hold j hjk] at hR'
      exact hop j o' R' hjk ho' hR' vs w hC (fun j' R'' ha hlt h''=>hB j' R'' ha hlt (by rw [hold j' (by omega)]; exact h'')) K hK
     ·obtain rfl:j=k:=by omega
      rw [ho] at ho'; cases ho'
      rw [hnew] at hR'; cases hR'
      refine hRo vs w hC (fun j' R'' ha h''=>?_) K hK
      have hlt:j' < Rs.length:=(List.getElem?_eq_some_iff.1 h'').1
      exact hB j' R'' ha (by omega) (by rw [hold j' (by omega)]; exact h''))
    hrest
def o6 (ops:Array Oper) (n:Nat):Bool:=(List.range n).all fun j=>bG .any ops ops.size n j
theorem nZ {C:World→Prop} {T:World→World→Prop} {a₀:Act} (hap:dI ops.toList=true) (hdn:eW .any ops=true) (Rs:List (Value→World→Prop)) (hlen:Rs.length+1=ops.size) (hah:o6 ops Rs.length=true)
  (hst:∀ (j:Nat) (R:Value→World→Prop),Rs[j]?=some R→∀ v w w',R v w→T w w'→R v w')
  (hop:∀ (j:Nat) (o:Oper) (R:Value→World→Prop),ops[j]?=some o→Rs[j]?=some R→∀ vs w,C w→(∀ (j' : Nat) (R' : Value→World→Prop),bG .any ops ops.size j j'=true→j' < j→Rs[j']?=some R'→R' (vs j') w)→∀ K:Act→World→Prop,(∀ a' v w',a'=(aw vs ops.toList 0 a₀).put o.dst v→R v w'→C w'→T w w'→K a' w') →
   if Region.wanted o (yielded ops (aw vs ops.toList 0 a₀).tmps)=true then o.wp P (aw vs ops.toList 0 a₀) w K Q else K ((aw vs ops.toList 0 a₀).put o.dst undef) w)
  (hlast:∀ o,ops[Rs.length]?=some o→∀ vs w,C w→(∀ (j:Nat) (R:Value→World→Prop),Rs[j]?=some R→R (vs j) w)→∀ K:Act→World→Prop,(∀ a' w',Q .normal a' w'→K a' w') →
   if Region.wanted o (yielded ops (aw vs ops.toList 0 a₀).tmps)=true then o.wp P (aw vs ops.toList 0 a₀) w K Q else K ((aw vs ops.toList 0 a₀).put o.dst undef) w) :
  ∀ (fuel:Nat) (listed:Array Bool) (vs:Nat→Value) (w:World),listed.size=ops.size→dU ops.size listed≤fuel→nY .any ops listed→listed.getD Rs.length false=false→C w→(∀ (j:Nat) (R:Value→World→Prop),listed.getD j false=true→Rs[j]?=some R→R (vs j) w) →
   wpAny P .any ops Q fuel listed (aw vs ops.toList 0 a₀) w:=by
 intro fuel
 induction fuel with
 | zero =>
  intro listed vs w hs hu hcl hn hC hR
  have:dU ops.size (listed.setIfInBounds Rs.length true) < dU ops.size listed:=ez (by omega) hs hn
  omega
 | succ fuel ih =>
  intro listed vs w hs hu hcl hn hC hR
  refine ⟨fun hr=>?_,fun i hi=>?_⟩
  ·have:=fW hdn hs hr Rs.length (by omega)
   rw [hn] at this; cases this
  obtain ⟨h0,o,ho,hall⟩:=mem_ready.1 hi
  have hisz:i < ops.size:=(Array.getElem?_eq_some_iff.1 ho).1
  have hil:i < listed.size:=by omega
  have h0' : listed.getD i false=false:=by simp only [Array.getD,hil,↓reduceDIte] at h0 ⊢; exact h0
  by_cases hin:i=Rs.length
  ·have hall' : ∀ j,j < Rs.length→listed.getD j false=true:=fun j hj=>by
    refine ce hcl ops.size i j (fun o' ho'=>by rw [ho] at ho'; cases ho'; exact hall) ?_
    rw [hin]; exact List.all_eq_true.1 hah j (List.mem_range.2 hj)
   have hstep:=hlast o (by rw [← hin]; exact ho) vs w hC (fun j R hj=>hR j R (hall' j (List.getElem?_eq_some_iff.1 hj).1) hj)
    (wpAny P .any ops Q fuel (listed.setIfInBounds i true)) (fun a' w' hq=>by
     have hfull:∀ j,j ∉ Region.ready .any ops (listed.setIfInBounds i true):=fun j hj=>by
      obtain ⟨g0,o',ho',_⟩:=mem_ready.1 hj
      have hjs:j < ops.size:=(Array.getElem?_eq_some_iff.1 ho').1
      have hjl:j < (listed.setIfInBounds i true).size:=by simp; omega
      have g0' : (listed.setIfInBounds i true).getD j false=false:=by simp only [Array.getD,hjl,↓reduceDIte] at g0 ⊢; exact g0
      by_cases hji:j=i
      ·subst hji; simp [hil] at g0'
      ·rw [getD_set_ne false (Ne.symm hji),hall' j (by omega)] at g0'; cases g0'
     have hnil:Region.ready .any ops (listed.setIfInBounds i true) = []:=List.eq_nil_iff_forall_not_mem.2 hfull
     cases fuel with
     | zero=>exact ⟨hnil,hq⟩
     | succ fuel=>exact ⟨fun _=>hq,fun j hj=>absurd hj (hfull j)⟩)
   unfold wpOp
   simp only [ho]
   split
   ·rename_i hw; rw [if_pos hw] at hstep; exact .inl hstep
   ·rename_i hw; rw [if_neg hw] at hstep; exact hstep
  obtain ⟨R,hRi⟩ : ∃ R,Rs[i]?=some R:=⟨Rs[i]'(by omega),List.getElem?_eq_getElem (by omega)⟩
  have hstep:=hop i o R ho hRi vs w hC (fun j' R' ha _ hR'=>hR j' R' (ce hcl ops.size i j' (fun o' ho'=>by rw [ho] at ho'; cases ho'; exact hall) ha) hR')
   (wpAny P .any ops Q fuel (listed.setIfInBounds i true)) (fun a' v w' ha hRv hC' hT=>by
    rw [ha,gR ops.toList 0 a₀ vs i o v hap (by simpa using ho),Nat.zero_add]
    refine ih _ _ _ (by simpa using hs) ?_ ?_ ?_ hC' ?_
    ·have:=ez hisz hs h0'; omega
    ·intro j oj hoj hj e he hb
     by_cases hji:j=i
     ·subst hji; rw [ho] at hoj; cases hoj; exact getD_set_true (hall e he hb)
     ·rw [getD_set_ne false (Ne.symm hji)] at hj; exact getD_set_true (hcl j oj hoj hj e he hb)
    ·rw [getD_set_ne false (fun h=>hin h)]; exact hn
    ·intro j R' hj hR'
     by_cases hji:j=i
     ·subst hji; rw [hRi] at hR'; cases hR'; simpa [pN] using hRv
     ·rw [getD_set_ne false (Ne.symm hji)] at hj
      have:=hst j R' hR' _ _ _ (hR j R' hj hR') hT
      simpa [pN,hji] using this)
  unfold wpOp
  simp only [ho]
  split
  ·rename_i hw; rw [if_pos hw] at hstep; exact .inl hstep
  ·rename_i hw; rw [if_neg hw] at hstep; exact hstep
theorem eB {id:Nat} {a:Act} {w:World} {l:List Oper} (C:World→Prop) (T:World→World→Prop) (hm:P.follows .mixedOrders=true) (hap:dI l=true) (hdn:eW .any l.toArray=true) (hah:o6 l.toArray (l.length - 1)=true)
    (hC:C w.drew) (h:fN P l.toArray Q C T (fun vs=>aw vs l 0 a) 0 l []):(Code.region id l.toArray true).wp P Q a w:=by
  refine wp_region_any hm ?_
  obtain ⟨Rs,h1,h2,h3,h4⟩:=kl (ops:=l.toArray) l 0 [] (by simp) rfl (by simp) (by simp) h
  obtain ⟨vs,hvs⟩ : ∃ vs:Nat→Value,∀ i o t,l[i]?=some o→o.dst=some t→vs (0+i)=a.tmps.getD t undef :=
    ⟨fun i=>match (l[i]?).bind (·.dst) with | some t=>a.tmps.getD t undef | none=>undef,fun i o t hi ht=>by simp [hi,ht]⟩
  have hl1 : Rs.length = l.length - 1 := by have h1' : Rs.length + 1 = l.length := by simpa using h1
                                            omega
  have:=nZ (P:=P) (Q:=Q) (ops:=l.toArray) (C:=C) (T:=T) (a₀:=a) hap hdn Rs h1 (by rw [hl1]; exact hah) h2 h3 h4 l.toArray.size (Array.replicate l.toArray.size false) vs w.drew (by simp)
    (Nat.le_trans (List.length_filter_le _ _) (by simp)) (fun j o hj hl=>by simp [Array.getD] at hl) (by simp [Array.getD]) hC (fun j R hl=>by simp [Array.getD] at hl)
  rwa [fV vs _ 0 a (by simpa using hvs)] at this
theorem fH {C : World → Prop} {T : World → World → Prop} {fr : (Nat → Value) → Act} {k : Nat} {o : Oper} {Rs : List (Value → World → Prop)} (h : ∀ vs w, C w → (∀ (j : Nat) (R : Value → World → Prop), Rs[j]? = some R → R (vs j) w) → ∀ K : Act → World → Prop, (∀ a' w', Q .normal a' w' → K a' w') →
      if Region.wanted o (yielded ops (fr vs).tmps)=true then o.wp P (fr vs) w K Q else K ((fr vs).put o.dst undef) w):fN P ops Q C T fr k [o] Rs:=.inl ⟨rfl,h⟩
theorem aC {C:World→Prop} {T:World→World→Prop} {fr:(Nat→Value)→Act} {k:Nat} {o:Oper} {l:List Oper} {Rs:List (Value→World→Prop)} (V:Value)
  (h1:∀ vs w,C w→(∀ (j:Nat) (R' : Value→World→Prop),bG .any ops ops.size k j=true→Rs[j]?=some R'→R' (vs j) w)→∀ K:Act→World→Prop,(∀ a' w',a'=(fr vs).put o.dst V→C w'→T w w'→K a' w') →
   if Region.wanted o (yielded ops (fr vs).tmps)=true then o.wp P (fr vs) w K Q else K ((fr vs).put o.dst undef) w)
  (h2:fN P ops Q C T fr (k+1) l (Rs++[fun v _=>v=V])):fN P ops Q C T fr k (o :: l) Rs :=
 .inr ⟨fun v _=>v=V,fun _ _ _ h _=>h,fun vs w hC hB K hK=>h1 vs w hC hB K fun a' w' ha hC' hT=>hK a' V w' ha rfl hC' hT,h2⟩
theorem bZ {C:World→Prop} {T:World→World→Prop} {fr:(Nat→Value)→Act} {k:Nat} {o:Oper} {l:List Oper} {Rs:List (Value→World→Prop)} (R:Value→World→Prop) (hR:∀ v w w',R v w→T w w'→R v w')
  (h1:∀ vs w,C w→(∀ (j:Nat) (R' : Value→World→Prop),bG .any ops ops.size k j=true→Rs[j]?=some R'→R' (vs j) w)→∀ K:Act→World→Prop,(∀ a' v w',a'=(fr vs).put o.dst v→R v w'→C w'→T w w'→K a' w') →
   if Region.wanted o (yielded ops (fr vs).tmps)=true then o.wp P (fr vs) w K Q else K ((fr vs).put o.dst undef) w)
  (h2:fN P ops Q C T fr (k+1) l (Rs++[R])):fN P ops Q C T fr k (o :: l) Rs :=
 .inr ⟨R,hR,h1,h2⟩
end
theorem km {P:Program} {ops:Array Oper} {tm:Array Value} {o:Oper} {a:Act} {w:World} {K:Act→World→Prop} {Q:Exit→Act→World→Prop} {E:Prop}
  (hg:o.guard=none) (s x:Operand) (t:TypeId) (ho:o.op=.call { callee:=.builtin .append,args:=#[s,x],argTypes:=#[t,t] })
  (e:TypeId) (z:Value) (k bytes:Nat) (ht:P.underlying t=some (.slice e)) (hinfo:(P.info? e).map (fun i=>(i.zero,i.size,i.bytes))=some (some z,k,bytes)) (hzs:z.cells.size=k) (hsz:0 < k) (hby:bytes≤1000)
  (B g:Nat) (hs:a.eval s=F (some ⟨g,0,none⟩) 0 0) (hL:ah w g e []) (hB:B≤g)
  (S:Nat) (A:Option Addr) (m c:Nat) (cs:List Value) (hx:a.eval x=F A m c) (hr:aY w S k A m cs) (h1:∀ u ∈ cs,u.oneCell'=true) (hm:m≤1000000)
  (h:∀ v' w',w'.ownsRow B e k v' m cs→Below w.heap.size w w'→K (a.put o.dst v') w'):if Region.wanted o (yielded ops tm)=true then o.wp P a w K Q else E:=by
 have hw:∀ tm:Array Value,Region.wanted o (yielded ops tm)=true:=fun tm=>by simp [Region.wanted,hg]
 rw [if_pos (hw _)]
 obtain ⟨i,hi,hz,hs',hb⟩:=info_parts hinfo
 have hbytes:(0+m) * bytes≤140737488355328:=by have:=Nat.mul_le_mul (show 0+m≤1000000 by omega) hby; omega
 have hlt:=hL.lt
 rcases Nat.eq_zero_or_pos m with h0 | h0
 ·subst h0
  have hc0:cs = []:=List.eq_nil_of_length_eq_zero (by simpa using hr.len)
  subst hc0
  have hown:w.ownsRow B e k (F (some ⟨g,0,none⟩) 0 0) 0 []:=cP hL hB
  have hrun:(Builtin.append_ #[t,t] o.type #[F (some ⟨g,0,none⟩) 0 0,F A 0 c]).run P w=.ok (F (some ⟨g,0,none⟩) 0 0) w:=by
   rcases A with _ | ad
   ·exact gQ w B t o.type e i k ht hi _ 0 [] hown c
   ·simp [Builtin.append_,run_underlying ht,sizeOf,typeInfo,hi,Builtin.lenOf,Builtin.firstCells,loadCells,loadCellsFrom,storeCells]
  unfold Oper.wp execOp
  simp only [ho,resolve,invoke,builtin,Sem.run_bind,Sem.run_pure,Result.andThen_ok,List.map_toArray,List.map_cons,List.map_nil,hs,hx,hrun]
  exact h _ _ hown (Below.refl _ _)
 ·obtain ⟨b,off,rfl,hlt',hcell⟩:=hr.at_ h0
  have key:=step_append_grows (P:=P) (ops:=ops) (a:=a) (w:=w) (K:=K) (Q:=Q) (E:=E) hg s x t ho e i z k bytes ht hi hz hs' hb hzs hsz (some ⟨g,0,none⟩) 0 0 [] hs (by simp) (by simp) (by simp) ⟨b,off,none⟩ m c cs hx hr.len (fun j u hu=>by rw [cd]; exact hcell j u hu) h1 (by omega) (by unfold maxLen; omega) hbytes (fun v' w' h2 h3=>by
   rw [Nat.zero_add,List.nil_append] at h2
   exact h v' w' (af h2 (by omega)) ((Below.refl _ _).grown h3 (Nat.le_refl _) (fun j hj=>by cases hj)))
  rw [if_pos (hw _)] at key
  exact key
def dC (w:World) (y:Oc) (e:Ending) (w' : World):Prop :=
 ∃ TA tc OA oc,e=.returned (y.at TA tc OA oc).val∧w'.ownsRow w.heap.size 104 2 (F TA y.t.length tc) y.t.length (y.t.flatMap ap.enc)∧w'.ownsRow w.heap.size 147 3 (F OA y.o.length oc) y.o.length (y.o.flatMap ae.enc)∧Below w.heap.size w w'
theorem cy:104 ≠ 40:=by decide
theorem cR:147 ≠ 40:=by decide
set_option maxRecDepth 100000 in
set_option maxHeartbeats 4000000 in
theorem iG (x:aL) (w:World) (h:aM w w.heap.size x) (tl:x.t.length≤1000000) (ol:x.o.length≤1000000) :
  Calls Tryz.prog 81 #[x.val] w (dC w x.c):=by
 have L1:=(ah.new w 40 #[F x.TA x.t.length x.tc,F x.OA x.o.length x.oc,O U x.got,O U x.sold,O U x.missed]).alloc (.cells #[F none 0 0,F none 0 0,O U 0,O U 0,O U 0] 40)
 have L2:=ah.new1 w (.cells #[F x.TA x.t.length x.tc,F x.OA x.o.length x.oc,O U x.got,O U x.sold,O U x.missed] 40) 40 #[F none 0 0,F none 0 0,O U 0,O U 0,O U 0]
 have b1:=(Below.refl w.heap.size w).alloc (Nat.le_refl _) (.cells #[F x.TA x.t.length x.tc,F x.OA x.o.length x.oc,O U x.got,O U x.sold,O U x.missed] 40)
 have b2:=b1.alloc b1.size (.cells #[F none 0 0,F none 0 0,O U 0,O U 0,O U 0] 40)
 clear b1
 go_enter Tryz.func81,Tryz.ntmps81
 go_wp2_with fail
 generalize ((w.alloc (.cells #[F x.TA x.t.length x.tc,F x.OA x.o.length x.oc,O U x.got,O U x.sold,O U x.missed] 40)).alloc (.cells #[F none 0 0,F none 0 0,O U 0,O U 0,O U 0] 40))=W at L1 L2 b2 ⊢
 have hR:=h.up b2 (Nat.le_refl _)
 have hT:=hR.ts
 have hO:=hR.os
 have l1:=L1.lt
 have l2:=L2.lt
 clear h hR
 refine eB (fun W9=>Below W.heap.size W W9) (fun w1 w2=>Below w1.heap.size w1 w2) (by kernel_rfl) (by kernel_rfl) (by kernel_rfl) (by kernel_rfl) (Below.refl _ _).drew ?_
 simp only [aw,Act.put,List.setIfInBounds_toArray,List.set_cons_zero,List.set_cons_succ,Nat.zero_add,Nat.reduceAdd]
 refine bZ (fun v w9=>∃ g,v=F (some ⟨g,0,none⟩) 0 0∧w.heap.size≤g∧ah w9 g 104 []) (fun v w1 w2 hv hT'=>by obtain ⟨g,e,hg,hl⟩:=hv; exact ⟨g,e,hg,hl.below hT' hl.lt⟩) (fun vs w9 hC9 hB K9 hK9=>?_) ?_
 ·go_simp
  exact hK9 _ _ _ rfl ⟨_,rfl,Nat.le_trans b2.size hC9.size,ah.new w9 104 #[]⟩ (hC9.alloc hC9.size _) ((Below.refl _ _).alloc (Nat.le_refl _) _)
 refine aC (.pointer (some ⟨w.heap.size,0,none⟩)) (fun vs w9 hC9 hB K9 hK9=>?_) ?_
 ·go_simp
  exact hK9 _ _ rfl hC9 (Below.refl _ _)
 refine aC (F x.TA x.t.length x.tc) (fun vs w9 hC9 hB K9 hK9=>?_) ?_
 ·have hd:=hB 1 _ (by kernel_rfl) rfl
  simp only [hd] at hK9 ⊢
  have q1:w9.cell? ⟨w.heap.size,0,none⟩=some (F x.TA x.t.length x.tc):=(L1.below hC9 L1.lt).cell 0
  go_simp
  exact hK9 _ _ rfl hC9 (Below.refl _ _)
 refine bZ (fun v w9=>∃ A c,v=F A x.t.length c∧w9.ownsRow w.heap.size 104 2 (F A x.t.length c) x.t.length (x.t.flatMap ap.enc)) (fun v w1 w2 hv hT'=>by obtain ⟨A,c,e,ho⟩:=hv; exact ⟨A,c,e,ac ho hT'⟩) (fun vs w9 hC9 hB K9 hK9=>?_) ?_
 ·obtain ⟨g,e0,hg,hl⟩:=hB 0 _ (by kernel_rfl) rfl
  have hd:=hB 2 _ (by kernel_rfl) rfl
  simp only [e0,hd] at hK9 ⊢
  refine km rfl (.tmp 3) (.tmp 5) 37 rfl 104 _ 2 16 Tryz.underlying37 dw rfl (by omega) (by omega) w.heap.size g (by rfl) hl hg W.heap.size x.TA x.t.length x.tc (x.t.flatMap ap.enc) (by rfl) (aY.below hT hC9) dN tl ?_
  intro v' w' ho hb
  obtain ⟨A',c',rfl⟩:=av ho
  exact hK9 _ _ _ rfl ⟨A',c',rfl,ho⟩ (hC9.trans (hb.mono hC9.size)) hb
 refine bZ (fun v w9=>∃ g,v=F (some ⟨g,0,none⟩) 0 0∧w.heap.size≤g∧ah w9 g 147 []) (fun v w1 w2 hv hT'=>by obtain ⟨g,e,hg,hl⟩:=hv; exact ⟨g,e,hg,hl.below hT' hl.lt⟩) (fun vs w9 hC9 hB K9 hK9=>?_) ?_
 ·go_simp
  exact hK9 _ _ _ rfl ⟨_,rfl,Nat.le_trans b2.size hC9.size,ah.new w9 147 #[]⟩ (hC9.alloc hC9.size _) ((Below.refl _ _).alloc (Nat.le_refl _) _)
 refine aC (.pointer (some ⟨w.heap.size,1,none⟩)) (fun vs w9 hC9 hB K9 hK9=>?_) ?_
 ·go_simp
  exact hK9 _ _ rfl hC9 (Below.refl _ _)
 refine aC (F x.OA x.o.length x.oc) (fun vs w9 hC9 hB K9 hK9=>?_) ?_
 ·have hd:=hB 5 _ (by kernel_rfl) rfl
  simp only [hd] at hK9 ⊢
  have q1:w9.cell? ⟨w.heap.size,1,none⟩=some (F x.OA x.o.length x.oc):=(L1.below hC9 L1.lt).cell 1
  go_simp
  exact hK9 _ _ rfl hC9 (Below.refl _ _)
 refine bZ (fun v w9=>∃ A c,v=F A x.o.length c∧w9.ownsRow w.heap.size 147 3 (F A x.o.length c) x.o.length (x.o.flatMap ae.enc)) (fun v w1 w2 hv hT'=>by obtain ⟨A,c,e,ho⟩:=hv; exact ⟨A,c,e,ac ho hT'⟩) (fun vs w9 hC9 hB K9 hK9=>?_) ?_
 ·obtain ⟨g,e0,hg,hl⟩:=hB 4 _ (by kernel_rfl) rfl
  have hd:=hB 6 _ (by kernel_rfl) rfl
  simp only [e0,hd] at hK9 ⊢
  refine km rfl (.tmp 7) (.tmp 9) 38 rfl 147 _ 3 24 Tryz.underlying38 dM rfl (by omega) (by omega) w.heap.size g (by rfl) hl hg W.heap.size x.OA x.o.length x.oc (x.o.flatMap ae.enc) (by rfl) (aY.below hO hC9) ex ol ?_
  intro v' w' ho hb
  obtain ⟨A',c',rfl⟩:=av ho
  exact hK9 _ _ _ rfl ⟨A',c',rfl,ho⟩ (hC9.trans (hb.mono hC9.size)) hb
 refine aC (.pointer (some ⟨w.heap.size,2,none⟩)) (fun vs w9 hC9 hB K9 hK9=>?_) ?_
 ·go_simp
  exact hK9 _ _ rfl hC9 (Below.refl _ _)
 refine aC (O U x.got) (fun vs w9 hC9 hB K9 hK9=>?_) ?_
 ·have hd:=hB 8 _ (by kernel_rfl) rfl
  simp only [hd] at hK9 ⊢
  have q1:w9.cell? ⟨w.heap.size,2,none⟩=some (O U x.got):=(L1.below hC9 L1.lt).cell 2
  go_simp
  exact hK9 _ _ rfl hC9 (Below.refl _ _)
 refine aC (.pointer (some ⟨w.heap.size,3,none⟩)) (fun vs w9 hC9 hB K9 hK9=>?_) ?_
 ·go_simp
  exact hK9 _ _ rfl hC9 (Below.refl _ _)
 refine aC (O U x.sold) (fun vs w9 hC9 hB K9 hK9=>?_) ?_
 ·have hd:=hB 10 _ (by kernel_rfl) rfl
  simp only [hd] at hK9 ⊢
  have q1:w9.cell? ⟨w.heap.size,3,none⟩=some (O U x.sold):=(L1.below hC9 L1.lt).cell 3
  go_simp
  exact hK9 _ _ rfl hC9 (Below.refl _ _)
 refine aC (.pointer (some ⟨w.heap.size,4,none⟩)) (fun vs w9 hC9 hB K9 hK9=>?_) ?_
 ·go_simp
  exact hK9 _ _ rfl hC9 (Below.refl _ _)
 refine aC (O U x.missed) (fun vs w9 hC9 hB K9 hK9=>?_) ?_
 ·have hd:=hB 12 _ (by kernel_rfl) rfl
  simp only [hd] at hK9 ⊢
  have q1:w9.cell? ⟨w.heap.size,4,none⟩=some (O U x.missed):=(L1.below hC9 L1.lt).cell 4
  go_simp
  exact hK9 _ _ rfl hC9 (Below.refl _ _)
 refine bZ (fun v w9=>∃ A c A' c',v=.agg #[F A x.t.length c,F A' x.o.length c',O U x.got,O U x.sold,O U x.missed]∧w9.ownsRow w.heap.size 104 2 (F A x.t.length c) x.t.length (x.t.flatMap ap.enc)∧w9.ownsRow w.heap.size 147 3 (F A' x.o.length c') x.o.length (x.o.flatMap ae.enc))
  (fun v w1 w2 hv hT'=>by obtain ⟨A,c,A',c',e,ho,hp⟩:=hv; exact ⟨A,c,A',c',e,ac ho hT',ac hp hT'⟩) (fun vs w9 hC9 hB K9 hK9=>?_) ?_
 ·obtain ⟨A,c,e3,ho⟩:=hB 3 _ (by kernel_rfl) rfl
  obtain ⟨A',c',e7,hp⟩:=hB 7 _ (by kernel_rfl) rfl
  have d9:=hB 9 _ (by kernel_rfl) rfl
  have d11:=hB 11 _ (by kernel_rfl) rfl
  have d13:=hB 13 _ (by kernel_rfl) rfl
  have ho:=Lib.hid ho
  have hp:=Lib.hid hp
  simp only [e3,e7,d9,d11,d13] at hK9 ⊢
  go_simp
  exact hK9 _ _ _ rfl ⟨A,c,A',c',rfl,ho.out,hp.out⟩ hC9 (Below.refl _ _)
 refine fH (fun vs w9 hC9 hB K9 hK9=>?_)
 obtain ⟨A,c,A',c',e14,ho,hp⟩:=hB 14 _ rfl
 simp only [e14] at hK9 ⊢
 have L2z:=L2.below hC9 L2.lt
 have z0:=L2z.cell 0
 have z1:=L2z.cell 1
 have z2:=L2z.cell 2
 have z3:=L2z.cell 3
 have z4:=L2z.cell 4
 obtain ⟨f0,f1,f2,f3,f4⟩:=frz5 L2z
 simp only [List.getElem?_cons_zero,List.getElem?_cons_succ] at z0 z1 z2 z3 z4
 have hgr:=(ab (g:=w.heap.size+1) (i:=4) (u:=O U x.missed) (ab (g:=w.heap.size+1) (i:=3) (u:=O U x.sold) (ab (g:=w.heap.size+1) (i:=2) (u:=O U x.got) (ab (g:=w.heap.size+1) (i:=1) (u:=F A' x.o.length c') (ab (g:=w.heap.size+1) (i:=0) (u:=F A x.t.length c) (World.grownBy.refl w9 (some (w.heap.size+1))))))))
 have bw:=b2.trans (hC9.mono b2.size)
 have bz:=bw.grown hgr bw.size (by rintro _ ⟨⟩; omega)
 have R8:=Lib.hid (aj ho L2z cy hgr)
 have R9:=Lib.hid (aj hp L2z cR hgr)
 clear hgr ho hp hB L2z
 go_simp
 refine hK9 _ _ ?_
 clear hK9 K9
 go_wp2
 refine bodyPost_ret (v:=.agg #[F A x.t.length c,F A' x.o.length c',O U x.got,O U x.sold,O U x.missed]) (by simp [results,Tryz.results81,go_sem, *]) rfl ?_
 exact ⟨A,c,A',c',rfl,R8.out,R9.out,bz⟩
structure ag where
 D:Nat
 R:Value→Value→World→Prop
 Br:List Nat:=[]
def ag.at (f:ag) (vs:Nat→Value) (j:Nat) (w:World):Prop:=f.R (vs f.D) (vs j) w
def ag.firm (ops:Array Oper) (T:Nat→World→World→Prop) (j:Nat) (f:ag):Prop:=∀ i,i ≠ j→i ∉ f.Br→bG .any ops ops.size j i=false→∀ u v w w',f.R u v w→T i w w'→f.R u v w'
def ag.live (ops:Array Oper) (k:Nat) (f:ag):Bool:=f.Br.all fun i=>i == k || bG .any ops ops.size i k
def ag.fine (ops:Array Oper) (j:Nat) (f:ag):Prop:=(∀ u u' v w,f.R u v w→f.R u' v w) ∨ bG .any ops ops.size j f.D=true
theorem ag.eq {V:Value} {vs:Nat→Value} {j:Nat} {w:World} (h:ag.at ⟨0,fun _ v _=>v=V,[]⟩ vs j w):vs j=V:=h
structure jw (ops:Array Oper) (L:Nat→Bool) (k:Nat):Prop where
 self:L k=false
 done:∀ j,bG .any ops ops.size k j=true→L j=true
 open_:∀ j,bG .any ops ops.size j k=true→L j=false
def Listed.but (L:Nat→Bool) (k:Nat):Nat→Bool:=fun j=>if j=k then true else L j
section
variable {P:Program} {ops:Array Oper} {Q:Exit→Act→World→Prop}
def er (P:Program) (ops:Array Oper) (Q:Exit→Act→World→Prop) (C:(Nat→Bool)→World→Prop) (T:Nat→World→World→Prop) (fr:(Nat→Value)→Act):Nat→List Oper→List ag→Prop
 | _,[],Rs=>∀ vs L w,(∀ j,j < ops.size→L j=true)→C L w→(∀ (j:Nat) (R:ag),R.Br = []→Rs[j]?=some R→R.at vs j w)→Q .normal (fr vs) w
 | k,o :: l,Rs=>∃ R:ag,R.fine ops k∧R.firm ops T k ∧
  (∀ vs L w,jw ops L k→C L w→(∀ (j:Nat) (R' : ag),bG .any ops ops.size k j=true→R'.live ops k=true→Rs[j]?=some R'→R'.at vs j w)→∀ K:Act→World→Prop,(∀ a' v w',a'=(fr vs).put o.dst v→R.R (vs R.D) v w'→C (Listed.but L k) w'→T k w w'→K a' w') →
   if Region.wanted o (yielded ops (fr vs).tmps)=true then o.wp P (fr vs) w K Q else K ((fr vs).put o.dst undef) w) ∧
  er P ops Q C T fr (k+1) l (Rs++[R])
theorem kn {C:(Nat→Bool)→World→Prop} {T:Nat→World→World→Prop} {fr:(Nat→Value)→Act} : ∀ (l:List Oper) (k:Nat) (Rs:List ag),(∀ i,l[i]?=ops[k+i]?)→Rs.length=k →
  (∀ (j:Nat) (R:ag),Rs[j]?=some R→R.fine ops j∧R.firm ops T j) →
  (∀ (j:Nat) (o:Oper) (R:ag),j < k→ops[j]?=some o→Rs[j]?=some R→∀ vs L w,jw ops L j→C L w→(∀ (j' : Nat) (R' : ag),bG .any ops ops.size j j'=true→R'.live ops j=true→j' < j→Rs[j']?=some R'→R'.at vs j' w)→∀ K:Act→World→Prop,(∀ a' v w',a'=(fr vs).put o.dst v→R.R (vs R.D) v w'→C (Listed.but L j) w'→T j w w'→K a' w') →
   if Region.wanted o (yielded ops (fr vs).tmps)=true then o.wp P (fr vs) w K Q else K ((fr vs).put o.dst undef) w) →
  er P ops Q C T fr k l Rs →
  ∃ Rs' : List ag,Rs'.length=k+l.length∧(∀ (j:Nat) (R:ag),Rs'[j]?=some R→R.fine ops j∧R.firm ops T j) ∧
  (∀ (j:Nat) (o:Oper) (R:ag),ops[j]?=some o→Rs'[j]?=some R→∀ vs L w,jw ops L j→C L w→(∀ (j' : Nat) (R' : ag),bG .any ops ops.size j j'=true→R'.live ops j=true→j' < j→Rs'[j']?=some R'→R'.at vs j' w)→∀ K:Act→World→Prop,(∀ a' v w',a'=(fr vs).put o.dst v→R.R (vs R.D) v w'→C (Listed.but L j) w'→T j w w'→K a' w') →
   if Region.wanted o (yielded ops (fr vs).tmps)=true then o.wp P (fr vs) w K Q else K ((fr vs).put o.dst undef) w) ∧
  (∀ vs L w,(∀ j,j < ops.size→L j=true)→C L w→(∀ (j:Nat) (R:ag),R.Br = []→Rs'[j]?=some R→R.at vs j w)→Q .normal (fr vs) w)
 | [],k,Rs,hl,hlen,hst,hop,h=>by
  refine ⟨Rs,by simpa using hlen,hst,fun j o R ho hR=>hop j o R ?_ ho hR,h⟩
  rw [← hlen]; exact (List.getElem?_eq_some_iff.1 hR).1
 | o :: l,k,Rs,hl,hlen,hst,hop,h=>by
  obtain ⟨R,hRf,hRs,hRo,hrest⟩:=h
  have ho:ops[k]?=some o:=by simpa using (hl 0).symm
  have hold:∀ j,j < k→(Rs++[R])[j]?=Rs[j]?:=fun j hj=>List.getElem?_append_left (by omega)
  have hnew:(Rs++[R])[k]?=some R:=by rw [List.getElem?_append_right (by omega),hlen]; simp
  obtain ⟨Rs',h1,h2,h3,h4⟩:=kn l (k+1) (Rs++[R]) (fun i=>by have:=hl (i+1); simpa [Nat.add_assoc,Nat.add_comm 1 i] using this) (by simp [hlen])
   (fun j R' hR'=>by
    rcases Nat.lt_trichotomy j k with hj | hj | hj
    ·rw [hold j hj] at hR'; exact hst j R' hR'
    ·subst hj; rw [hnew] at hR'; cases hR'; exact ⟨hRf,hRs⟩
    ·rw [List.getElem?_eq_none (by simp [hlen]; omega)] at hR'; cases hR')
   (fun j o' R' hj ho' hR' vs L w hG hC hB K hK=>by
    rcases Nat.lt_or_ge j k with hjk | hjk
    ·rw [hold j hjk] at hR'
     exact hop j o' R' hjk ho' hR' vs L w hG hC (fun j' R'' ha hv hlt h''=>hB j' R'' ha hv hlt (by rw [hold j' (by omega)]; exact h'')) K hK
    ·obtain rfl:j=k:=by omega
     rw [ho] at ho'; cases ho'
     rw [hnew] at hR'; cases hR'
     refine hRo vs L w hG hC (fun j' R'' ha hv h''=>?_) K hK
     have hlt:j' < Rs.length:=(List.getElem?_eq_some_iff.1 h'').1
     exact hB j' R'' ha hv (by omega) (by rw [hold j' (by omega)]; exact h''))
   hrest
  exact ⟨Rs',by rw [h1]; simp; omega,h2,h3,h4⟩
theorem jE {i:Nat} {listed:Array Bool} (h:i < listed.size):(listed.setIfInBounds i true).getD i false=true:=by simp [h]
theorem n6 {C:(Nat→Bool)→World→Prop} {T:Nat→World→World→Prop} {a₀:Act} (hap:dI ops.toList=true) (hdn:eW .any ops=true) (Rs:List ag) (hlen:Rs.length=ops.size)
  (hst:∀ (j:Nat) (R:ag),Rs[j]?=some R→R.fine ops j∧R.firm ops T j)
  (hop:∀ (j:Nat) (o:Oper) (R:ag),ops[j]?=some o→Rs[j]?=some R→∀ vs L w,jw ops L j→C L w→(∀ (j' : Nat) (R' : ag),bG .any ops ops.size j j'=true→R'.live ops j=true→j' < j→Rs[j']?=some R'→R'.at vs j' w)→∀ K:Act→World→Prop,(∀ a' v w',a'=(aw vs ops.toList 0 a₀).put o.dst v→R.R (vs R.D) v w'→C (Listed.but L j) w'→T j w w'→K a' w') →
   if Region.wanted o (yielded ops (aw vs ops.toList 0 a₀).tmps)=true then o.wp P (aw vs ops.toList 0 a₀) w K Q else K ((aw vs ops.toList 0 a₀).put o.dst undef) w)
  (hend:∀ vs L w,(∀ j,j < ops.size→L j=true)→C L w→(∀ (j:Nat) (R:ag),R.Br = []→Rs[j]?=some R→R.at vs j w)→Q .normal (aw vs ops.toList 0 a₀) w) :
  ∀ (fuel:Nat) (listed:Array Bool) (vs:Nat→Value) (w:World),listed.size=ops.size→dU ops.size listed≤fuel→nY .any ops listed→C (fun j=>listed.getD j false) w→(∀ (j:Nat) (R:ag),listed.getD j false=true→(∀ i ∈ R.Br,listed.getD i false=false)→Rs[j]?=some R→R.at vs j w) →
   wpAny P .any ops Q fuel listed (aw vs ops.toList 0 a₀) w:=by
 have hfin:∀ (listed:Array Bool) (vs:Nat→Value) (w:World),listed.size=ops.size→C (fun j=>listed.getD j false) w→(∀ (j:Nat) (R:ag),listed.getD j false=true→(∀ i ∈ R.Br,listed.getD i false=false)→Rs[j]?=some R→R.at vs j w)→Region.ready .any ops listed = []→Q .normal (aw vs ops.toList 0 a₀) w :=
  fun listed vs w hs hC hR hr=>hend vs _ w (fun j hj=>fW hdn hs hr j hj) hC fun j R hbr hj=>hR j R (fW hdn hs hr j (by rw [← hlen]; exact (List.getElem?_eq_some_iff.1 hj).1)) (by rw [hbr]; intro i hi; cases hi) hj
 intro fuel
 induction fuel with
 | zero =>
  intro listed vs w hs hu hcl hC hR
  have hr:Region.ready .any ops listed = []:=by
   rw [List.eq_nil_iff_forall_not_mem]
   intro j hj
   obtain ⟨h0,o,ho,_⟩:=mem_ready.1 hj
   have hjs:j < ops.size:=(Array.getElem?_eq_some_iff.1 ho).1
   have:dU ops.size (listed.setIfInBounds j true) < dU ops.size listed:=ez hjs hs (by
    have:j < listed.size:=by omega
    simp only [Array.getD,this,↓reduceDIte] at h0 ⊢; exact h0)
   omega
  exact ⟨hr,hfin listed vs w hs hC hR hr⟩
 | succ fuel ih =>
  intro listed vs w hs hu hcl hC hR
  refine ⟨hfin listed vs w hs hC hR,fun i hi=>?_⟩
  obtain ⟨h0,o,ho,hall⟩:=mem_ready.1 hi
  have hisz:i < ops.size:=(Array.getElem?_eq_some_iff.1 ho).1
  have hil:i < listed.size:=by omega
  have h0' : listed.getD i false=false:=by simp only [Array.getD,hil,↓reduceDIte] at h0 ⊢; exact h0
  obtain ⟨R,hRi⟩ : ∃ R,Rs[i]?=some R:=⟨Rs[i]'(by omega),List.getElem?_eq_getElem (by omega)⟩
  have hclo:∀ j,bG .any ops ops.size i j=true→listed.getD j false=true:=fun j ha=>ce hcl ops.size i j (fun o' ho'=>by rw [ho] at ho'; cases ho'; exact hall) ha
  have hopn:∀ j,bG .any ops ops.size j i=true→listed.getD j false=false:=fun j ha=>by
   rcases hq:listed.getD j false with _ | _
   ·rfl
   ·have hl:=ce hcl ops.size j i (fun o' ho'=>hcl j o' ho' hq) ha
    rw [h0'] at hl; cases hl
  have hstep:=hop i o R ho hRi vs (fun j=>listed.getD j false) w ⟨h0',hclo,hopn⟩ hC (fun j' R' ha hv _ hR'=>hR j' R' (ce hcl ops.size i j' (fun o' ho'=>by rw [ho] at ho'; cases ho'; exact hall) ha) (fun i' hi'=>by
    have hv':=List.all_eq_true.1 hv i' hi'
    simp only [Bool.or_eq_true,beq_iff_eq] at hv'
    rcases hv' with rfl | hv'
    ·exact h0'
    ·rcases hq:listed.getD i' false with _ | _
     ·rfl
     ·have hl:=ce hcl ops.size i' i (fun o' ho'=>hcl i' o' ho' hq) hv'
      rw [h0'] at hl; cases hl) hR')
   (wpAny P .any ops Q fuel (listed.setIfInBounds i true)) (fun a' v w' ha hRv hC' hT=>by
    rw [ha,gR ops.toList 0 a₀ vs i o v hap (by simpa using ho),Nat.zero_add]
    have hC9:C (fun j=>(listed.setIfInBounds i true).getD j false) w':=by
     have e:(fun j=>(listed.setIfInBounds i true).getD j false)=Listed.but (fun j=>listed.getD j false) i:=by
      funext j
      unfold Listed.but
      by_cases e:j=i
      ·subst e; rw [if_pos rfl]; exact jE hil
      ·rw [if_neg e]; exact getD_set_ne false (Ne.symm e)
     rw [e]; exact hC'
    refine ih _ _ _ (by simpa using hs) ?_ ?_ hC9 ?_
    ·have:=ez hisz hs h0'; omega
    ·intro j oj hoj hj e he hb
     by_cases hji:j=i
     ·subst hji; rw [ho] at hoj; cases hoj; exact getD_set_true (hall e he hb)
     ·rw [getD_set_ne false (Ne.symm hji)] at hj; exact getD_set_true (hcl j oj hoj hj e he hb)
    ·intro j R' hj hbr hR'
     have key:∀ (u' : Value),R'.R (vs R'.D) u' w'→R'.R (pN vs i v R'.D) u' w':=fun u' h=>by
      by_cases hDi:R'.D=i
      ·rcases (hst j R' hR').1 with hf | ha
       ·exact hf _ _ _ _ h
       ·exfalso
        have hl:listed.getD R'.D false=true:=by
         by_cases hji:j=i
         ·subst hji; exact ce hcl ops.size j _ (fun o' ho'=>by rw [ho] at ho'; cases ho'; exact hall) ha
         ·rw [getD_set_ne false (Ne.symm hji)] at hj
          exact ce hcl ops.size j _ (fun o' ho'=>hcl j o' ho' hj) ha
        rw [hDi,h0'] at hl; cases hl
      ·have:pN vs i v R'.D=vs R'.D:=by unfold pN; rw [if_neg hDi]
       rw [this]; exact h
     unfold ag.at
     by_cases hji:j=i
     ·subst hji; rw [hRi] at hR'; cases hR'
      have:pN vs j v j=v:=by unfold pN; rw [if_pos rfl]
      rw [this]
      exact key v hRv
     ·rw [getD_set_ne false (Ne.symm hji)] at hj
      have hai:bG .any ops ops.size j i=false:=by
       rcases hq:bG .any ops ops.size j i with _ | _
       ·rfl
       ·have hl:=ce hcl ops.size j i (fun o' ho'=>hcl j o' ho' hj) hq
        rw [h0'] at hl; cases hl
      have hib:i ∉ R'.Br:=fun hm=>by have h1:=hbr i hm; rw [jE hil] at h1; cases h1
      have hbr' : ∀ i' ∈ R'.Br,listed.getD i' false=false:=fun i' hm=>by
       have h1:=hbr i' hm
       by_cases e:i'=i
       ·subst e; exact absurd hm hib
       ·rwa [getD_set_ne false (Ne.symm e)] at h1
      have h3:=(hst j R' hR').2 i (Ne.symm hji) hib hai _ _ _ _ (hR j R' hj hbr' hR') hT
      have:pN vs i v j=vs j:=by unfold pN; rw [if_neg hji]
      rw [this]
      refine key _ ?_
      exact h3)
  unfold wpOp
  simp only [ho]
  split
  ·rename_i hw; rw [if_pos hw] at hstep; exact .inl hstep
  ·rename_i hw; rw [if_neg hw] at hstep; exact hstep
theorem kP {id:Nat} {a:Act} {w:World} {l:List Oper} (C:(Nat→Bool)→World→Prop) (T:Nat→World→World→Prop) (hm:P.follows .mixedOrders=true) (hap:dI l=true) (hdn:eW .any l.toArray=true)
  (hC:C (fun _=>false) w.drew) (h:er P l.toArray Q C T (fun vs=>aw vs l 0 a) 0 l []):(Code.region id l.toArray true).wp P Q a w:=by
 refine wp_region_any hm ?_
 obtain ⟨Rs,h1,h2,h3,h4⟩:=kn (ops:=l.toArray) l 0 [] (by simp) rfl (by simp) (by simp) h
 obtain ⟨vs,hvs⟩ : ∃ vs:Nat→Value,∀ i o t,l[i]?=some o→o.dst=some t→vs (0+i)=a.tmps.getD t undef :=
  ⟨fun i=>match (l[i]?).bind (·.dst) with | some t=>a.tmps.getD t undef | none=>undef,fun i o t hi ht=>by simp [hi,ht]⟩
 have:=n6 (P:=P) (Q:=Q) (ops:=l.toArray) (C:=C) (T:=T) (a₀:=a) hap hdn Rs (by simpa using h1) h2 h3 h4 l.toArray.size (Array.replicate l.toArray.size false) vs w.drew (by simp)
  (Nat.le_trans (List.length_filter_le _ _) (by simp)) (fun j o hj hl=>by simp [Array.getD] at hl) (by
   have e:(fun j=>(Array.replicate l.toArray.size false).getD j false)=fun _=>false:=by funext j; simp [Array.getD]
   rw [e]; exact hC) (fun j R hl=>by simp [Array.getD] at hl)
 rwa [fV vs _ 0 a (by simpa using hvs)] at this
end
def Sw (s:Nat) (C0 C1:World→Prop) (L:Nat→Bool) (w:World):Prop:=if L s=true then C1 w else C0 w
section
variable {ops:Array Oper} {s k:Nat} {C0 C1:World→Prop} {L:Nat→Bool} {w w' : World}
theorem Sw.start (h:C0 w):Sw s C0 C1 (fun _=>false) w:=by unfold Sw; rw [if_neg (by simp)]; exact h
theorem Sw.before (hG:jw ops L k) (ha:bG .any ops ops.size s k=true) (h:Sw s C0 C1 L w):C0 w:=by
 unfold Sw at h; rwa [if_neg (by rw [hG.open_ s ha]; simp)] at h
theorem Sw.stay (hG:jw ops L k) (ha:bG .any ops ops.size s k=true) (hne:s ≠ k) (h:C0 w):Sw s C0 C1 (Listed.but L k) w:=by
 unfold Sw Listed.but; rw [if_neg (by rw [if_neg hne,hG.open_ s ha]; simp)]; exact h
theorem Sw.here (hG:jw ops L s) (h:Sw s C0 C1 L w):C0 w:=by unfold Sw at h; rwa [if_neg (by rw [hG.self]; simp)] at h
theorem Sw.turn (h:C1 w):Sw s C0 C1 (Listed.but L s) w:=by unfold Sw Listed.but; rw [if_pos (if_pos rfl)]; exact h
theorem Sw.after (hG:jw ops L k) (ha:bG .any ops ops.size k s=true) (h:Sw s C0 C1 L w):C1 w:=by unfold Sw at h; rwa [if_pos (hG.done s ha)] at h
theorem Sw.on (hG:jw ops L k) (ha:bG .any ops ops.size k s=true) (h:C1 w):Sw s C0 C1 (Listed.but L k) w:=by
 unfold Sw Listed.but; rw [if_pos (by rw [hG.done s ha]; simp)]; exact h
theorem Sw.both (hne:s ≠ k) (h0:C0 w→C0 w') (h1:C1 w→C1 w') (h:Sw s C0 C1 L w):Sw s C0 C1 (Listed.but L k) w':=by
 unfold Sw Listed.but at *
 rw [if_neg hne]
 split at h
 ·rename_i e; rw [if_pos e]; exact h1 h
 ·rename_i e; rw [if_neg e]; exact h0 h
theorem Sw.done (hL:∀ j,j < ops.size→L j=true) (hs:s < ops.size) (h:Sw s C0 C1 L w):C1 w:=by unfold Sw at h; rwa [if_pos (hL s hs)] at h
end
section
variable {P:Program} {ops:Array Oper} {Q:Exit→Act→World→Prop}
def eH (P:Program) (ops:Array Oper) (Q:Exit→Act→World→Prop) (C:(Nat→Bool)→World→Prop) (T:Nat→World→World→Prop) (fr:(Nat→Value)→Act):Nat→List Oper→List ag→Prop
 | k,[],Rs=>∀ vs L w,(∀ j,j < ops.size→L j=true)→C L w→(∀ (j:Nat) (R:ag),R.Br = []→Rs[k - 1 - j]?=some R→j < k→R.at vs j w)→Q .normal (fr vs) w
 | k,o :: l,Rs=>∃ R:ag,R.fine ops k∧R.firm ops T k ∧
  (∀ vs L w,jw ops L k→C L w→(∀ (j:Nat) (R' : ag),bG .any ops ops.size k j=true→R'.live ops k=true→Rs[k - 1 - j]?=some R'→j < k→R'.at vs j w)→∀ K:Act→World→Prop,(∀ a' v w',a'=(fr vs).put o.dst v→R.R (vs R.D) v w'→C (Listed.but L k) w'→T k w w'→K a' w') →
   if Region.wanted o (yielded ops (fr vs).tmps)=true then o.wp P (fr vs) w K Q else K ((fr vs).put o.dst undef) w) ∧
  eH P ops Q C T fr (k+1) l (R :: Rs)
theorem o7 {Rs:List ag} {k j:Nat} {R:ag} (hk:Rs.length=k) (h:Rs[k - 1 - j]?=some R) (hj:j < k):Rs.reverse[j]?=some R:=by
 rw [List.getElem?_reverse (by omega),hk]; exact h
theorem mv {C:(Nat→Bool)→World→Prop} {T:Nat→World→World→Prop} {fr:(Nat→Value)→Act} : ∀ (l:List Oper) (k:Nat) (Rs:List ag),Rs.length=k→eH P ops Q C T fr k l Rs→er P ops Q C T fr k l Rs.reverse
 | [],_,_,hk,h=>fun vs L w hL hC hB=>h vs L w hL hC fun j R hb hR hj=>hB j R hb (o7 hk hR hj)
 | _ :: l,k,Rs,hk,⟨R,h1,h2,h3,h4⟩=>⟨R,h1,h2,fun vs L w hG hC hB K hK=>h3 vs L w hG hC (fun j R' ha hv hR hj=>hB j R' ha hv (o7 hk hR hj)) K hK,by
   have:=mv l (k+1) (R :: Rs) (by simp [hk]) h4
   rwa [List.reverse_cons] at this⟩
theorem am {id:Nat} {a:Act} {w:World} {l:List Oper} (C:(Nat→Bool)→World→Prop) (T:Nat→World→World→Prop) (hm:P.follows .mixedOrders=true) (hap:dI l=true) (hdn:eW .any l.toArray=true)
  (hC:C (fun _=>false) w.drew) (h:eH P l.toArray Q C T (fun vs=>aw vs l 0 a) 0 l []):(Code.region id l.toArray true).wp P Q a w :=
 kP C T hm hap hdn hC (mv l 0 [] rfl h)
theorem ax {C:(Nat→Bool)→World→Prop} {T:Nat→World→World→Prop} {fr:(Nat→Value)→Act} {k:Nat} {Rs:List ag} (h:∀ vs L w,(∀ j,j < ops.size→L j=true)→C L w→(∀ (j:Nat) (R:ag),R.Br = []→Rs[k - 1 - j]?=some R→j < k→R.at vs j w)→Q .normal (fr vs) w):eH P ops Q C T fr k [] Rs:=h
theorem aa {C:(Nat→Bool)→World→Prop} {T:Nat→World→World→Prop} {fr:(Nat→Value)→Act} {k:Nat} {o:Oper} {l:List Oper} {Rs:List ag} (V:Value)
  (h1:∀ vs L w,jw ops L k→C L w→(∀ (j:Nat) (R' : ag),bG .any ops ops.size k j=true→R'.live ops k=true→Rs[k - 1 - j]?=some R'→j < k→R'.at vs j w)→∀ K:Act→World→Prop,(∀ a' w',a'=(fr vs).put o.dst V→C (Listed.but L k) w'→T k w w'→K a' w') →
   if Region.wanted o (yielded ops (fr vs).tmps)=true then o.wp P (fr vs) w K Q else K ((fr vs).put o.dst undef) w)
  (h2:eH P ops Q C T fr (k+1) l (⟨0,fun _ v _=>v=V,[]⟩ :: Rs)):eH P ops Q C T fr k (o :: l) Rs :=
 ⟨⟨0,fun _ v _=>v=V,[]⟩,.inl (fun _ _ _ _ h=>h),fun _ _ _ _ _ _ _ _ h _=>h,fun vs L w hG hC hB K hK=>h1 vs L w hG hC hB K fun a' w' ha hC' hT=>hK a' V w' ha rfl hC' hT,h2⟩
theorem ak {C:(Nat→Bool)→World→Prop} {T:Nat→World→World→Prop} {fr:(Nat→Value)→Act} {k:Nat} {o:Oper} {l:List Oper} {Rs:List ag} (Br:List Nat) (R:Value→World→Prop) (hR:∀ i,i ≠ k→i ∉ Br→bG .any ops ops.size k i=false→∀ v w w',R v w→T i w w'→R v w')
  (h1:∀ vs L w,jw ops L k→C L w→(∀ (j:Nat) (R' : ag),bG .any ops ops.size k j=true→R'.live ops k=true→Rs[k - 1 - j]?=some R'→j < k→R'.at vs j w)→∀ K:Act→World→Prop,(∀ a' v w',a'=(fr vs).put o.dst v→R v w'→C (Listed.but L k) w'→T k w w'→K a' w') →
   if Region.wanted o (yielded ops (fr vs).tmps)=true then o.wp P (fr vs) w K Q else K ((fr vs).put o.dst undef) w)
  (h2:eH P ops Q C T fr (k+1) l (⟨0,fun _ v w=>R v w,Br⟩ :: Rs)):eH P ops Q C T fr k (o :: l) Rs :=
 ⟨⟨0,fun _ v w=>R v w,Br⟩,.inl (fun _ _ _ _ h=>h),fun i hi hb ha _ v w w' h t=>hR i hi hb ha v w w' h t,h1,h2⟩
theorem bu {C:(Nat→Bool)→World→Prop} {T:Nat→World→World→Prop} {fr:(Nat→Value)→Act} {k:Nat} {o:Oper} {l:List Oper} {Rs:List ag} (Br:List Nat) (D:Nat) (R:Value→Value→World→Prop) (hD:bG .any ops ops.size k D=true) (hR:∀ i,i ≠ k→i ∉ Br→bG .any ops ops.size k i=false→∀ u v w w',R u v w→T i w w'→R u v w')
  (h1:∀ vs L w,jw ops L k→C L w→(∀ (j:Nat) (R' : ag),bG .any ops ops.size k j=true→R'.live ops k=true→Rs[k - 1 - j]?=some R'→j < k→R'.at vs j w)→∀ K:Act→World→Prop,(∀ a' v w',a'=(fr vs).put o.dst v→R (vs D) v w'→C (Listed.but L k) w'→T k w w'→K a' w') →
   if Region.wanted o (yielded ops (fr vs).tmps)=true then o.wp P (fr vs) w K Q else K ((fr vs).put o.dst undef) w)
  (h2:eH P ops Q C T fr (k+1) l (⟨D,R,Br⟩ :: Rs)):eH P ops Q C T fr k (o :: l) Rs :=
 ⟨⟨D,R,Br⟩,.inr hD,hR,h1,h2⟩
end
theorem fe {ops:Array Oper} {k:Nat} {Rs:List ag} {vs:Nat→Value} {w:World} (hB:∀ (j:Nat) (R:ag),bG .any ops ops.size k j=true→R.live ops k=true→Rs[k-1-j]?=some R→j<k→R.at vs j w) (j:Nat) {V:Value} (h3:Rs[k-1-j]?=some ⟨0,fun _ v _=>v=V,[]⟩:=by rfl) (h1:bG .any ops ops.size k j=true:=by kernel_rfl) (h4:j<k:=by decide):vs j=V:=ag.eq (hB j _ h1 rfl h3 h4)
theorem fs {ops:Array Oper} {k:Nat} {Rs:List ag} {vs:Nat→Value} {w:World} (hB:∀ (j:Nat) (R:ag),bG .any ops ops.size k j=true→R.live ops k=true→Rs[k-1-j]?=some R→j<k→R.at vs j w) (j:Nat) {R:ag} (h3:Rs[k-1-j]?=some R:=by rfl) (h1:bG .any ops ops.size k j=true:=by kernel_rfl) (h2:R.live ops k=true:=by kernel_rfl) (h4:j<k:=by decide):R.at vs j w:=hB j _ h1 h2 h3 h4
theorem sy {ops:Array Oper} {s k:Nat} {C0 C1:World→Prop} {L:Nat→Bool} {w:World} (hG:jw ops L k) (h:C0 w) (ha:bG .any ops ops.size s k=true:=by kernel_rfl) (hne:s≠k:=by decide):Sw s C0 C1 (Listed.but L k) w:=Sw.stay hG ha hne h
theorem sb {ops:Array Oper} {s k:Nat} {C0 C1:World→Prop} {L:Nat→Bool} {w:World} (h:Sw s C0 C1 L w) (hG:jw ops L k) (ha:bG .any ops ops.size s k=true:=by kernel_rfl):C0 w:=Sw.before hG ha h
theorem ah.apart {w:World} {g g' : Nat} {t t' : TypeId} {cs cs' : List Value} (h:ah w g t cs) (h' : ah w g' t' cs') (hne:t ≠ t'):g ≠ g':=by
 intro e
 subst e
 unfold ah at h h'
 rw [h] at h'
 injection h' with h'; injection h' with _ h2; exact hne h2
theorem ne_to:104 ≠ 147:=by decide
section
variable {P:Program} {ops:Array Oper} {tm:Array Value} {o:Oper} {a:Act} {w:World} {K:Act→World→Prop} {Q:Exit→Act→World→Prop} {E:Prop}
theorem l7 {t e:TypeId} (ht:P.underlying t=some (.slice e)):P.underlying t=some (.slice (P.elem t))∧P.elem t=e:=by
 have:P.elem t=e:=by simp [Program.elem,ht]
 exact ⟨by rw [this]; exact ht,this⟩
theorem aY.take {B k n:Nat} {A:Option Addr} {cs:List Value} (h:aY w B k A n cs) (i:Nat) (hi:i≤n):aY w B k A i (cs.take (i * k)):=by
 have hm:i * k≤n * k:=Nat.mul_le_mul_right k hi
 refine ⟨by rw [List.length_take,h.len]; omega,by have:=h.big; omega,fun h0=>?_⟩
 obtain ⟨b,off,e,hb,hc⟩:=h.at_ (by omega)
 exact ⟨b,off,e,hb,fun j u hu=>hc j u (by rw [List.getElem?_take] at hu; split at hu; exact hu; cases hu)⟩
theorem aY.drop {B k n:Nat} {A A' : Option Addr} {cs:List Value} (h:aY w B k A n cs) (i:Nat) (hi:i≤n) (hA:i < n→A'=A.map fun p=>p.add (i * k)):aY w B k A' (n - i) (cs.drop (i * k)):=by
 refine ⟨by rw [List.length_drop,h.len,Nat.sub_mul],by have:=h.big; omega,fun h0=>?_⟩
 obtain ⟨b,off,e,hb,hc⟩:=h.at_ (by omega)
 refine ⟨b,off+i * k, ?_,hb,fun j u hu=>?_⟩
 ·rw [hA (by omega),e]; simp only [Option.map_some,cd]
 ·rw [List.getElem?_drop] at hu
  have:=hc _ u hu
  rwa [Nat.add_assoc]
theorem nx {e:TypeId} {s:Nat} (hs:(P.info? e).map (·.size)=some s):∃ inf,P.info? e=some inf∧inf.size=s:=by
 cases hq:P.info? e with
 | none=>simp [hq] at hs
 | some inf=>exact ⟨inf,rfl,by simpa [hq] using hs⟩
theorem sO (A:Option Addr):A.map (fun p=>p.add 0)=A:=by cases A <;> simp [Addr.add]
theorem o8 {t e:TypeId} (ht:P.underlying t=some (.slice e)) {s:Nat} (hs:(P.info? e).map (·.size)=some s) (A:Option Addr) (n c i:Nat) (hi:i≤n) (hc:n≤c) (w:World) :
  (Instr.slice t (.slice A n c) none (some (.int .i64 (i:Int))) none).run P w=.ok (.slice A i c) w:=by
 obtain ⟨h1,h2⟩:=l7 ht
 obtain ⟨inf,hin,hsz⟩:=nx hs
 rw [run_slice_h (P:=P) (w:=w) t A n c h1 .i64 (i:Int) (by omega) (by omega),h2]
 simp [sizeOf,typeInfo,hin,sliced,sO]
theorem m9 {t e:TypeId} (ht:P.underlying t=some (.slice e)) {s:Nat} (hs:(P.info? e).map (·.size)=some s) (A:Option Addr) (n c i:Nat) (hi:i≤n) (w:World) :
  (Instr.slice t (.slice A n c) (some (.int .i64 (i:Int))) none none).run P w=.ok (.slice (if c=i then A else A.map (fun p=>p.add (i * s))) (n - i) (c - i)) w:=by
 obtain ⟨h1,h2⟩:=l7 ht
 obtain ⟨inf,hin,hsz⟩:=nx hs
 rw [run_slice_l (P:=P) (w:=w) t A n c h1 .i64 (i:Int) (by omega) (by omega),h2]
 simp [sizeOf,typeInfo,hin,sliced,hsz]
theorem ko (hg:o.guard=none) (t e:TypeId) (x y:Operand) (ho:o.op=.slice t x none (some y) none) (ht:P.underlying t=some (.slice e)) (s:Nat) (hs:(P.info? e).map (·.size)=some s)
  (A:Option Addr) (n c i:Nat) (hx:a.eval x=.slice A n c) (hy:a.eval y=.int .i64 (i:Int)) (hi:i≤n) (hc:n≤c)
  (h:K (a.put o.dst (.slice A i c)) w):if Region.wanted o (yielded ops tm)=true then o.wp P a w K Q else E:=by
 have hw:∀ tm:Array Value,Region.wanted o (yielded ops tm)=true:=fun tm=>by simp [Region.wanted,hg]
 rw [if_pos (hw _)]
 unfold Oper.wp execOp
 simp only [ho,hx,Option.map_some,Option.map_none,hy,run_sliceAt_slice (P:=P) (w:=w) t _ _ _ _ (l7 ht).1,o8 ht hs A n c i hi hc w,Sem.run_bind,Sem.run_pure,Result.andThen_ok]
 exact h
theorem ja (hg:o.guard=none) (t e:TypeId) (x y:Operand) (ho:o.op=.slice t x (some y) none none) (ht:P.underlying t=some (.slice e)) (s:Nat) (hs:(P.info? e).map (·.size)=some s)
  (A:Option Addr) (n c i:Nat) (hx:a.eval x=.slice A n c) (hy:a.eval y=.int .i64 (i:Int)) (hi:i≤n) (hc:n≤c)
  (h:∀ A',(∀ (W:World) (B:Nat) (cs:List Value),aY W B s A n cs→aY W B s A' (n - i) (cs.drop (i * s)))→K (a.put o.dst (.slice A' (n - i) (c - i))) w):if Region.wanted o (yielded ops tm)=true then o.wp P a w K Q else E:=by
 have hw:∀ tm:Array Value,Region.wanted o (yielded ops tm)=true:=fun tm=>by simp [Region.wanted,hg]
 rw [if_pos (hw _)]
 unfold Oper.wp execOp
 simp only [ho,hx,Option.map_some,Option.map_none,hy,run_sliceAt_slice (P:=P) (w:=w) t _ _ _ _ (l7 ht).1,m9 ht hs A n c i hi w,Sem.run_bind,Sem.run_pure,Result.andThen_ok]
 exact h _ fun W B cs hr=>hr.drop i hi fun hlt=>by rw [if_neg (by omega)]
theorem kp (hg:o.guard=none) (s x:Operand) (t:TypeId) (ho:o.op=.call { callee:=.builtin .append,args:=#[s,x],argTypes:=#[t,t] })
  (e:TypeId) (z:Value) (k bytes:Nat) (ht:P.underlying t=some (.slice e)) (hinfo:(P.info? e).map (fun i=>(i.zero,i.size,i.bytes))=some (some z,k,bytes)) (hzs:z.cells.size=k) (hsz:0 < k) (hby:bytes≤1000)
  (B:Nat) (v:Value) (n:Nat) (xs:List Value) (hs:a.eval s=v) (hown:w.ownsRow B e k v n xs)
  (S:Nat) (A:Option Addr) (m c:Nat) (cs:List Value) (hx:a.eval x=.slice A m c) (hr:aY w S k A m cs) (h1:∀ u ∈ cs,u.oneCell'=true)
  (hn:n+m≤1000000000) (hbase:B≤w.heap.size)
  (h:∀ A' c' w',w'.ownsRow B e k (.slice A' (n+m) c') (n+m) (xs++cs)→w.grownBy w' v.ownBlock→Below B w w'→K (a.put o.dst (.slice A' (n+m) c')) w'):if Region.wanted o (yielded ops tm)=true then o.wp P a w K Q else E:=by
 have hw:∀ tm:Array Value,Region.wanted o (yielded ops tm)=true:=fun tm=>by simp [Region.wanted,hg]
 rw [if_pos (hw _)]
 refine sL s x t ho e z k bytes ht hinfo hzs hsz hby B v n xs hs (Lib.hid hown) S A m c cs hx (Lib.hid hr) h1 hn hbase fun v' w' h2 h3 h4 _=>?_
 obtain ⟨A',c',rfl⟩:=av h2.out
 exact h A' c' w' h2.out h3 h4
theorem jb {B k n:Nat} {e:TypeId} {A:Option Addr} {c:Nat} {xs:List Value} (h:w.ownsRow B e k (.slice A n c) n xs):n≤c:=by
 obtain ⟨_,⟨h0,h1⟩ | ⟨g,cap,cur,hv,_,_,hc,_⟩⟩:=h
 ·injection h0 with _ h2 h3; omega
 ·injection hv with _ _ h3; omega
end
end Go.Proofs.YtoeoimhemojdeaaGreatDoor
