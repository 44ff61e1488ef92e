/- Rl04: the texts SpecOwn FactsN FactsR OffHeld StepOps SpecIn, joined into one file. -/
import Derived.Deep.RegionLawGrows
import Derived.Test.YtoeoimhemojdeaaGreatDoorRl02
import Derived.Test.YtoeoimhemojdeaaGreatDoorRl03

set_option linter.unusedVariables false
open Go.Value renaming int → O, slice → F, string → sQ
open Go.IntKind renaming i64 → U

namespace Go.Proofs.YtoeoimhemojdeaaGreatDoor
open Go.RowKit
theorem jN {P:Program} {ops:Array Oper} {tm:Array Value} {o:Oper} {a:Act} {w:World} {K:Act→World→Prop} {Q:Exit→Act→World→Prop} {E:Prop}
  (hg:o.guard=none) (s x:Operand) (t:TypeId) (ho:o.op=.call { callee:=.builtin .append,args:=#[s,x],argTypes:=#[t,t] })
  (e:TypeId) (z:Value) (k bytes:Nat) (ht:P.underlying t=some (.slice e)) (hinfo:(P.info? e).map (fun i=>(i.zero,i.size,i.bytes))=some (some z,k,bytes)) (hzs:z.cells.size=k) (hsz:0 < k) (hby:bytes≤1000)
  (B g:Nat) (hs:a.eval s=F (some ⟨g,0,none⟩) 0 0) (hL:ai w g e []) (hB:B≤g)
  (S:Nat) (A:Option Addr) (m c:Nat) (cs:List Value) (hx:a.eval x=F A m c) (hr:br w S k A m cs) (h1:∀ u ∈ cs,u.oneCell'=true) (hm:m≤1000000)
  (h:∀ v' w',w'.ownsRow B e k v' m cs→Below w.heap.size w w'→K (a.put o.dst v') w'):if Region.wanted o (yielded ops tm)=true then o.wp P a w K Q else E:=by
 have hw:∀ tm:Array Value,Region.wanted o (yielded ops tm)=true:=fun tm=>by simp [Region.wanted,hg]
 rw [if_pos (hw _)]
 obtain ⟨i,hi,hz,hs',hb⟩:=info_parts hinfo
 have hbytes:(0+m) * bytes≤140737488355328:=by have:=Nat.mul_le_mul (show 0+m≤1000000 by omega) hby; omega
 have hlt:=hL.lt
 rcases Nat.eq_zero_or_pos m with h0 | h0
 ·subst h0
  have hc0:cs = []:=List.eq_nil_of_length_eq_zero (by simpa using hr.len)
  subst hc0
  have hown:w.ownsRow B e k (F (some ⟨g,0,none⟩) 0 0) 0 []:=cz hL hB
  have hrun:(Builtin.append_ #[t,t] o.type #[F (some ⟨g,0,none⟩) 0 0,F A 0 c]).run P w=.ok (F (some ⟨g,0,none⟩) 0 0) w:=by
   rcases A with _ | ad
   ·exact gB w B t o.type e i k ht hi _ 0 [] hown c
   ·simp [Builtin.append_,run_underlying ht,sizeOf,typeInfo,hi,Builtin.lenOf,Builtin.firstCells,loadCells,loadCellsFrom,storeCells]
  unfold Oper.wp execOp
  simp only [ho,resolve,invoke,builtin,Sem.run_bind,Sem.run_pure,Result.andThen_ok,List.map_toArray,List.map_cons,List.map_nil,hs,hx,hrun]
  exact h _ _ hown (Below.refl _ _)
 ·obtain ⟨b,off,rfl,hlt',hcell⟩:=hr.at_ h0
  have key:=step_append_grows (P:=P) (ops:=ops) (a:=a) (w:=w) (K:=K) (Q:=Q) (E:=E) hg s x t ho e i z k bytes ht hi hz hs' hb hzs hsz (some ⟨g,0,none⟩) 0 0 [] hs (by simp) (by simp) (by simp) ⟨b,off,none⟩ m c cs hx hr.len (fun j u hu=>by rw [bY]; exact hcell j u hu) h1 (by omega) (by unfold maxLen; omega) hbytes (fun v' w' h2 h3=>by
   rw [Nat.zero_add,List.nil_append] at h2
   exact h v' w' (af h2 (by omega)) ((Below.refl _ _).grown h3 (Nat.le_refl _) (fun j hj=>by cases hj)))
  rw [if_pos (hw _)] at key
  exact key
def dr (w:World) (y:Oc) (e:Ending) (w' : World):Prop :=
 ∃ TA tc OA oc,e=.returned (y.at TA tc OA oc).val∧w'.ownsRow w.heap.size 104 2 (F TA y.t.length tc) y.t.length (y.t.flatMap aq.enc)∧w'.ownsRow w.heap.size 147 3 (F OA y.o.length oc) y.o.length (y.o.flatMap ae.enc)∧Below w.heap.size w w'
theorem cq:104 ≠ 40:=by decide
theorem cF:147 ≠ 40:=by decide
set_option maxRecDepth 100000 in
set_option maxHeartbeats 4000000 in
theorem io (x:aM) (w:World) (h:aQ w w.heap.size x) (tl:x.t.length≤1000000) (ol:x.o.length≤1000000) :
  Calls Tryz.prog 81 #[x.val] w (dr w x.c):=by
 have L1:=(ai.new w 40 #[F x.TA x.t.length x.tc,F x.OA x.o.length x.oc,O U x.got,O U x.sold,O U x.missed]).alloc (.cells #[F none 0 0,F none 0 0,O U 0,O U 0,O U 0] 40)
 have L2:=ai.new1 w (.cells #[F x.TA x.t.length x.tc,F x.OA x.o.length x.oc,O U x.got,O U x.sold,O U x.missed] 40) 40 #[F none 0 0,F none 0 0,O U 0,O U 0,O U 0]
 have b1:=(Below.refl w.heap.size w).alloc (Nat.le_refl _) (.cells #[F x.TA x.t.length x.tc,F x.OA x.o.length x.oc,O U x.got,O U x.sold,O U x.missed] 40)
 have b2:=b1.alloc b1.size (.cells #[F none 0 0,F none 0 0,O U 0,O U 0,O U 0] 40)
 clear b1
 go_enter Tryz.func81,Tryz.ntmps81
 go_wp2_with fail
 generalize ((w.alloc (.cells #[F x.TA x.t.length x.tc,F x.OA x.o.length x.oc,O U x.got,O U x.sold,O U x.missed] 40)).alloc (.cells #[F none 0 0,F none 0 0,O U 0,O U 0,O U 0] 40))=W at L1 L2 b2 ⊢
 have hR:=h.up b2 (Nat.le_refl _)
 have hT:=hR.ts
 have hO:=hR.os
 have l1:=L1.lt
 have l2:=L2.lt
 clear h hR
 refine eu (fun W9=>Below W.heap.size W W9) (fun w1 w2=>Below w1.heap.size w1 w2) (by kernel_rfl) (by kernel_rfl) (by kernel_rfl) (by kernel_rfl) (Below.refl _ _).drew ?_
 simp only [ax,Act.put,List.setIfInBounds_toArray,List.set_cons_zero,List.set_cons_succ,Nat.zero_add,Nat.reduceAdd]
 refine bX (fun v w9=>∃ g,v=F (some ⟨g,0,none⟩) 0 0∧w.heap.size≤g∧ai w9 g 104 []) (fun v w1 w2 hv hT'=>by obtain ⟨g,e,hg,hl⟩:=hv; exact ⟨g,e,hg,hl.below hT' hl.lt⟩) (fun vs w9 hC9 hB K9 hK9=>?_) ?_
 ·go_simp
  exact hK9 _ _ _ rfl ⟨_,rfl,Nat.le_trans b2.size hC9.size,ai.new w9 104 #[]⟩ (hC9.alloc hC9.size _) ((Below.refl _ _).alloc (Nat.le_refl _) _)
 refine aD (.pointer (some ⟨w.heap.size,0,none⟩)) (fun vs w9 hC9 hB K9 hK9=>?_) ?_
 ·go_simp
  exact hK9 _ _ rfl hC9 (Below.refl _ _)
 refine aD (F x.TA x.t.length x.tc) (fun vs w9 hC9 hB K9 hK9=>?_) ?_
 ·have hd:=hB 1 _ (by kernel_rfl) rfl
  simp only [hd] at hK9 ⊢
  have q1:w9.cell? ⟨w.heap.size,0,none⟩=some (F x.TA x.t.length x.tc):=(L1.below hC9 L1.lt).cell 0
  go_simp
  exact hK9 _ _ rfl hC9 (Below.refl _ _)
 refine bX (fun v w9=>∃ A c,v=F A x.t.length c∧w9.ownsRow w.heap.size 104 2 (F A x.t.length c) x.t.length (x.t.flatMap aq.enc)) (fun v w1 w2 hv hT'=>by obtain ⟨A,c,e,ho⟩:=hv; exact ⟨A,c,e,ab ho hT'⟩) (fun vs w9 hC9 hB K9 hK9=>?_) ?_
 ·obtain ⟨g,e0,hg,hl⟩:=hB 0 _ (by kernel_rfl) rfl
  have hd:=hB 2 _ (by kernel_rfl) rfl
  simp only [e0,hd] at hK9 ⊢
  refine jN rfl (.tmp 3) (.tmp 5) 37 rfl 104 _ 2 16 Tryz.underlying37 dj rfl (by omega) (by omega) w.heap.size g (by rfl) hl hg W.heap.size x.TA x.t.length x.tc (x.t.flatMap aq.enc) (by rfl) (br.below hT hC9) dF tl ?_
  intro v' w' ho hb
  obtain ⟨A',c',rfl⟩:=aw ho
  exact hK9 _ _ _ rfl ⟨A',c',rfl,ho⟩ (hC9.trans (hb.mono hC9.size)) hb
 refine bX (fun v w9=>∃ g,v=F (some ⟨g,0,none⟩) 0 0∧w.heap.size≤g∧ai w9 g 147 []) (fun v w1 w2 hv hT'=>by obtain ⟨g,e,hg,hl⟩:=hv; exact ⟨g,e,hg,hl.below hT' hl.lt⟩) (fun vs w9 hC9 hB K9 hK9=>?_) ?_
 ·go_simp
  exact hK9 _ _ _ rfl ⟨_,rfl,Nat.le_trans b2.size hC9.size,ai.new w9 147 #[]⟩ (hC9.alloc hC9.size _) ((Below.refl _ _).alloc (Nat.le_refl _) _)
 refine aD (.pointer (some ⟨w.heap.size,1,none⟩)) (fun vs w9 hC9 hB K9 hK9=>?_) ?_
 ·go_simp
  exact hK9 _ _ rfl hC9 (Below.refl _ _)
 refine aD (F x.OA x.o.length x.oc) (fun vs w9 hC9 hB K9 hK9=>?_) ?_
 ·have hd:=hB 5 _ (by kernel_rfl) rfl
  simp only [hd] at hK9 ⊢
  have q1:w9.cell? ⟨w.heap.size,1,none⟩=some (F x.OA x.o.length x.oc):=(L1.below hC9 L1.lt).cell 1
  go_simp
  exact hK9 _ _ rfl hC9 (Below.refl _ _)
 refine bX (fun v w9=>∃ A c,v=F A x.o.length c∧w9.ownsRow w.heap.size 147 3 (F A x.o.length c) x.o.length (x.o.flatMap ae.enc)) (fun v w1 w2 hv hT'=>by obtain ⟨A,c,e,ho⟩:=hv; exact ⟨A,c,e,ab ho hT'⟩) (fun vs w9 hC9 hB K9 hK9=>?_) ?_
 ·obtain ⟨g,e0,hg,hl⟩:=hB 4 _ (by kernel_rfl) rfl
  have hd:=hB 6 _ (by kernel_rfl) rfl
  simp only [e0,hd] at hK9 ⊢
  refine jN rfl (.tmp 7) (.tmp 9) 38 rfl 147 _ 3 24 Tryz.underlying38 dE rfl (by omega) (by omega) w.heap.size g (by rfl) hl hg W.heap.size x.OA x.o.length x.oc (x.o.flatMap ae.enc) (by rfl) (br.below hO hC9) ep ol ?_
  intro v' w' ho hb
  obtain ⟨A',c',rfl⟩:=aw ho
  exact hK9 _ _ _ rfl ⟨A',c',rfl,ho⟩ (hC9.trans (hb.mono hC9.size)) hb
 refine aD (.pointer (some ⟨w.heap.size,2,none⟩)) (fun vs w9 hC9 hB K9 hK9=>?_) ?_
 ·go_simp
  exact hK9 _ _ rfl hC9 (Below.refl _ _)
 refine aD (O U x.got) (fun vs w9 hC9 hB K9 hK9=>?_) ?_
 ·have hd:=hB 8 _ (by kernel_rfl) rfl
  simp only [hd] at hK9 ⊢
  have q1:w9.cell? ⟨w.heap.size,2,none⟩=some (O U x.got):=(L1.below hC9 L1.lt).cell 2
  go_simp
  exact hK9 _ _ rfl hC9 (Below.refl _ _)
 refine aD (.pointer (some ⟨w.heap.size,3,none⟩)) (fun vs w9 hC9 hB K9 hK9=>?_) ?_
 ·go_simp
  exact hK9 _ _ rfl hC9 (Below.refl _ _)
 refine aD (O U x.sold) (fun vs w9 hC9 hB K9 hK9=>?_) ?_
 ·have hd:=hB 10 _ (by kernel_rfl) rfl
  simp only [hd] at hK9 ⊢
  have q1:w9.cell? ⟨w.heap.size,3,none⟩=some (O U x.sold):=(L1.below hC9 L1.lt).cell 3
  go_simp
  exact hK9 _ _ rfl hC9 (Below.refl _ _)
 refine aD (.pointer (some ⟨w.heap.size,4,none⟩)) (fun vs w9 hC9 hB K9 hK9=>?_) ?_
 ·go_simp
  exact hK9 _ _ rfl hC9 (Below.refl _ _)
 refine aD (O U x.missed) (fun vs w9 hC9 hB K9 hK9=>?_) ?_
 ·have hd:=hB 12 _ (by kernel_rfl) rfl
  simp only [hd] at hK9 ⊢
  have q1:w9.cell? ⟨w.heap.size,4,none⟩=some (O U x.missed):=(L1.below hC9 L1.lt).cell 4
  go_simp
  exact hK9 _ _ rfl hC9 (Below.refl _ _)
 refine bX (fun v w9=>∃ A c A' c',v=.agg #[F A x.t.length c,F A' x.o.length c',O U x.got,O U x.sold,O U x.missed]∧w9.ownsRow w.heap.size 104 2 (F A x.t.length c) x.t.length (x.t.flatMap aq.enc)∧w9.ownsRow w.heap.size 147 3 (F A' x.o.length c') x.o.length (x.o.flatMap ae.enc))
  (fun v w1 w2 hv hT'=>by obtain ⟨A,c,A',c',e,ho,hp⟩:=hv; exact ⟨A,c,A',c',e,ab ho hT',ab hp hT'⟩) (fun vs w9 hC9 hB K9 hK9=>?_) ?_
 ·obtain ⟨A,c,e3,ho⟩:=hB 3 _ (by kernel_rfl) rfl
  obtain ⟨A',c',e7,hp⟩:=hB 7 _ (by kernel_rfl) rfl
  have d9:=hB 9 _ (by kernel_rfl) rfl
  have d11:=hB 11 _ (by kernel_rfl) rfl
  have d13:=hB 13 _ (by kernel_rfl) rfl
  have ho:=Lib.hid ho
  have hp:=Lib.hid hp
  simp only [e3,e7,d9,d11,d13] at hK9 ⊢
  go_simp
  exact hK9 _ _ _ rfl ⟨A,c,A',c',rfl,ho.out,hp.out⟩ hC9 (Below.refl _ _)
 refine ft (fun vs w9 hC9 hB K9 hK9=>?_)
 obtain ⟨A,c,A',c',e14,ho,hp⟩:=hB 14 _ rfl
 simp only [e14] at hK9 ⊢
 have L2z:=L2.below hC9 L2.lt
 have z0:=L2z.cell 0
 have z1:=L2z.cell 1
 have z2:=L2z.cell 2
 have z3:=L2z.cell 3
 have z4:=L2z.cell 4
 obtain ⟨f0,f1,f2,f3,f4⟩:=frz5 L2z
 simp only [List.getElem?_cons_zero,List.getElem?_cons_succ] at z0 z1 z2 z3 z4
 have hgr:=(ac (g:=w.heap.size+1) (i:=4) (u:=O U x.missed) (ac (g:=w.heap.size+1) (i:=3) (u:=O U x.sold) (ac (g:=w.heap.size+1) (i:=2) (u:=O U x.got) (ac (g:=w.heap.size+1) (i:=1) (u:=F A' x.o.length c') (ac (g:=w.heap.size+1) (i:=0) (u:=F A x.t.length c) (World.grownBy.refl w9 (some (w.heap.size+1))))))))
 have bw:=b2.trans (hC9.mono b2.size)
 have bz:=bw.grown hgr bw.size (by rintro _ ⟨⟩; omega)
 have R8:=Lib.hid (aj ho L2z cq hgr)
 have R9:=Lib.hid (aj hp L2z cF hgr)
 clear hgr ho hp hB L2z
 go_simp
 refine hK9 _ _ ?_
 clear hK9 K9
 go_wp2
 refine bodyPost_ret (v:=.agg #[F A x.t.length c,F A' x.o.length c',O U x.got,O U x.sold,O U x.missed]) (by simp [results,Tryz.results81,go_sem, *]) rfl ?_
 exact ⟨A,c,A',c',rfl,R8.out,R9.out,bz⟩
structure ag where
 D:Nat
 R:Value→Value→World→Prop
 Br:List Nat:=[]
def ag.at (f:ag) (vs:Nat→Value) (j:Nat) (w:World):Prop:=f.R (vs f.D) (vs j) w
def ag.firm (ops:Array Oper) (T:Nat→World→World→Prop) (j:Nat) (f:ag):Prop:=∀ i,i ≠ j→i ∉ f.Br→bG .any ops ops.size j i=false→∀ u v w w',f.R u v w→T i w w'→f.R u v w'
def ag.live (ops:Array Oper) (k:Nat) (f:ag):Bool:=f.Br.all fun i=>i == k || bG .any ops ops.size i k
def ag.fine (ops:Array Oper) (j:Nat) (f:ag):Prop:=(∀ u u' v w,f.R u v w→f.R u' v w) ∨ bG .any ops ops.size j f.D=true
theorem ag.eq {V:Value} {vs:Nat→Value} {j:Nat} {w:World} (h:ag.at ⟨0,fun _ v _=>v=V,[]⟩ vs j w):vs j=V:=h
structure jb (ops:Array Oper) (L:Nat→Bool) (k:Nat):Prop where
 self:L k=false
 done:∀ j,bG .any ops ops.size k j=true→L j=true
 open_:∀ j,bG .any ops ops.size j k=true→L j=false
def Listed.but (L:Nat→Bool) (k:Nat):Nat→Bool:=fun j=>if j=k then true else L j
section
variable {P:Program} {ops:Array Oper} {Q:Exit→Act→World→Prop}
def dZ (P:Program) (ops:Array Oper) (Q:Exit→Act→World→Prop) (C:(Nat→Bool)→World→Prop) (T:Nat→World→World→Prop) (fr:(Nat→Value)→Act):Nat→List Oper→List ag→Prop
 | _,[],Rs=>∀ vs L w,(∀ j,j < ops.size→L j=true)→C L w→(∀ (j:Nat) (R:ag),R.Br = []→Rs[j]?=some R→R.at vs j w)→Q .normal (fr vs) w
 | k,o :: l,Rs=>∃ R:ag,R.fine ops k∧R.firm ops T k ∧
  (∀ vs L w,jb ops L k→C L w→(∀ (j:Nat) (R' : ag),bG .any ops ops.size k j=true→R'.live ops k=true→Rs[j]?=some R'→R'.at vs j w)→∀ K:Act→World→Prop,(∀ a' v w',a'=(fr vs).put o.dst v→R.R (vs R.D) v w'→C (Listed.but L k) w'→T k w w'→K a' w') →
   if Region.wanted o (yielded ops (fr vs).tmps)=true then o.wp P (fr vs) w K Q else K ((fr vs).put o.dst undef) w) ∧
  dZ P ops Q C T fr (k+1) l (Rs++[R])
theorem jO {C:(Nat→Bool)→World→Prop} {T:Nat→World→World→Prop} {fr:(Nat→Value)→Act} : ∀ (l:List Oper) (k:Nat) (Rs:List ag),(∀ i,l[i]?=ops[k+i]?)→Rs.length=k →
  (∀ (j:Nat) (R:ag),Rs[j]?=some R→R.fine ops j∧R.firm ops T j) →
  (∀ (j:Nat) (o:Oper) (R:ag),j < k→ops[j]?=some o→Rs[j]?=some R→∀ vs L w,jb ops L j→C L w→(∀ (j' : Nat) (R' : ag),bG .any ops ops.size j j'=true→R'.live ops j=true→j' < j→Rs[j']?=some R'→R'.at vs j' w)→∀ K:Act→World→Prop,(∀ a' v w',a'=(fr vs).put o.dst v→R.R (vs R.D) v w'→C (Listed.but L j) w'→T j w w'→K a' w') →
   if Region.wanted o (yielded ops (fr vs).tmps)=true then o.wp P (fr vs) w K Q else K ((fr vs).put o.dst undef) w) →
  dZ P ops Q C T fr k l Rs →
  ∃ Rs' : List ag,Rs'.length=k+l.length∧(∀ (j:Nat) (R:ag),Rs'[j]?=some R→R.fine ops j∧R.firm ops T j) ∧
  (∀ (j:Nat) (o:Oper) (R:ag),ops[j]?=some o→Rs'[j]?=some R→∀ vs L w,jb ops L j→C L w→(∀ (j' : Nat) (R' : ag),bG .any ops ops.size j j'=true→R'.live ops j=true→j' < j→Rs'[j']?=some R'→R'.at vs j' w)→∀ K:Act→World→Prop,(∀ a' v w',a'=(fr vs).put o.dst v→R.R (vs R.D) v w'→C (Listed.but L j) w'→T j w w'→K a' w') →
   if Region.wanted o (yielded ops (fr vs).tmps)=true then o.wp P (fr vs) w K Q else K ((fr vs).put o.dst undef) w) ∧
  (∀ vs L w,(∀ j,j < ops.size→L j=true)→C L w→(∀ (j:Nat) (R:ag),R.Br = []→Rs'[j]?=some R→R.at vs j w)→Q .normal (fr vs) w)
 | [],k,Rs,hl,hlen,hst,hop,h=>by
  refine ⟨Rs,by simpa using hlen,hst,fun j o R ho hR=>hop j o R ?_ ho hR,h⟩
  rw [← hlen]; exact (List.getElem?_eq_some_iff.1 hR).1
 | o :: l,k,Rs,hl,hlen,hst,hop,h=>by
  obtain ⟨R,hRf,hRs,hRo,hrest⟩:=h
  have ho:ops[k]?=some o:=by simpa using (hl 0).symm
  have hold:∀ j,j < k→(Rs++[R])[j]?=Rs[j]?:=fun j hj=>List.getElem?_append_left (by omega)
  have hnew:(Rs++[R])[k]?=some R:=by rw [List.getElem?_append_right (by omega),hlen]; simp
  obtain ⟨Rs',h1,h2,h3,h4⟩:=jO l (k+1) (Rs++[R]) (fun i=>by have:=hl (i+1); simpa [Nat.add_assoc,Nat.add_comm 1 i] using this) (by simp [hlen])
   (fun j R' hR'=>by
    rcases Nat.lt_trichotomy j k with hj | hj | hj
    ·rw [hold j hj] at hR'; exact hst j R' hR'
    ·subst hj; rw [hnew] at hR'; cases hR'; exact ⟨hRf,hRs⟩
    ·rw [List.getElem?_eq_none (by simp [hlen]; omega)] at hR'; cases hR')
   (fun j o' R' hj ho' hR' vs L w hG hC hB K hK=>by
    rcases Nat.lt_or_ge j k with hjk | hjk
    ·rw [hold j hjk] at hR'
     exact hop j o' R' hjk ho' hR' vs L w hG hC (fun j' R'' ha hv hlt h''=>hB j' R'' ha hv hlt (by rw [hold j' (by omega)]; exact h'')) K hK
    ·obtain rfl:j=k:=by omega
     rw [ho] at ho'; cases ho'
     rw [hnew] at hR'; cases hR'
     refine hRo vs L w hG hC (fun j' R'' ha hv h''=>?_) K hK
     have hlt:j' < Rs.length:=(List.getElem?_eq_some_iff.1 h'').1
     exact hB j' R'' ha hv (by omega) (by rw [hold j' (by omega)]; exact h''))
   hrest
  exact ⟨Rs',by rw [h1]; simp; omega,h2,h3,h4⟩
theorem jj {i:Nat} {listed:Array Bool} (h:i < listed.size):(listed.setIfInBounds i true).getD i false=true:=by simp [h]
theorem np {C:(Nat→Bool)→World→Prop} {T:Nat→World→World→Prop} {a₀:Act} (hap:dB ops.toList=true) (hdn:eJ .any ops=true) (Rs:List ag) (hlen:Rs.length=ops.size)
  (hst:∀ (j:Nat) (R:ag),Rs[j]?=some R→R.fine ops j∧R.firm ops T j)
  (hop:∀ (j:Nat) (o:Oper) (R:ag),ops[j]?=some o→Rs[j]?=some R→∀ vs L w,jb ops L j→C L w→(∀ (j' : Nat) (R' : ag),bG .any ops ops.size j j'=true→R'.live ops j=true→j' < j→Rs[j']?=some R'→R'.at vs j' w)→∀ K:Act→World→Prop,(∀ a' v w',a'=(ax vs ops.toList 0 a₀).put o.dst v→R.R (vs R.D) v w'→C (Listed.but L j) w'→T j w w'→K a' w') →
   if Region.wanted o (yielded ops (ax vs ops.toList 0 a₀).tmps)=true then o.wp P (ax vs ops.toList 0 a₀) w K Q else K ((ax vs ops.toList 0 a₀).put o.dst undef) w)
  (hend:∀ vs L w,(∀ j,j < ops.size→L j=true)→C L w→(∀ (j:Nat) (R:ag),R.Br = []→Rs[j]?=some R→R.at vs j w)→Q .normal (ax vs ops.toList 0 a₀) w) :
  ∀ (fuel:Nat) (listed:Array Bool) (vs:Nat→Value) (w:World),listed.size=ops.size→dJ ops.size listed≤fuel→nl .any ops listed→C (fun j=>listed.getD j false) w→(∀ (j:Nat) (R:ag),listed.getD j false=true→(∀ i ∈ R.Br,listed.getD i false=false)→Rs[j]?=some R→R.at vs j w) →
   wpAny P .any ops Q fuel listed (ax vs ops.toList 0 a₀) w:=by
 have hfin:∀ (listed:Array Bool) (vs:Nat→Value) (w:World),listed.size=ops.size→C (fun j=>listed.getD j false) w→(∀ (j:Nat) (R:ag),listed.getD j false=true→(∀ i ∈ R.Br,listed.getD i false=false)→Rs[j]?=some R→R.at vs j w)→Region.ready .any ops listed = []→Q .normal (ax vs ops.toList 0 a₀) w :=
  fun listed vs w hs hC hR hr=>hend vs _ w (fun j hj=>fK hdn hs hr j hj) hC fun j R hbr hj=>hR j R (fK hdn hs hr j (by rw [← hlen]; exact (List.getElem?_eq_some_iff.1 hj).1)) (by rw [hbr]; intro i hi; cases hi) hj
 intro fuel
 induction fuel with
 | zero =>
  intro listed vs w hs hu hcl hC hR
  have hr:Region.ready .any ops listed = []:=by
   rw [List.eq_nil_iff_forall_not_mem]
   intro j hj
   obtain ⟨h0,o,ho,_⟩:=mem_ready.1 hj
   have hjs:j < ops.size:=(Array.getElem?_eq_some_iff.1 ho).1
   have:dJ ops.size (listed.setIfInBounds j true) < dJ ops.size listed:=er hjs hs (by
    have:j < listed.size:=by omega
    simp only [Array.getD,this,↓reduceDIte] at h0 ⊢; exact h0)
   omega
  exact ⟨hr,hfin listed vs w hs hC hR hr⟩
 | succ fuel ih =>
  intro listed vs w hs hu hcl hC hR
  refine ⟨hfin listed vs w hs hC hR,fun i hi=>?_⟩
  obtain ⟨h0,o,ho,hall⟩:=mem_ready.1 hi
  have hisz:i < ops.size:=(Array.getElem?_eq_some_iff.1 ho).1
  have hil:i < listed.size:=by omega
  have h0' : listed.getD i false=false:=by simp only [Array.getD,hil,↓reduceDIte] at h0 ⊢; exact h0
  obtain ⟨R,hRi⟩ : ∃ R,Rs[i]?=some R:=⟨Rs[i]'(by omega),List.getElem?_eq_getElem (by omega)⟩
  have hclo:∀ j,bG .any ops ops.size i j=true→listed.getD j false=true:=fun j ha=>bZ hcl ops.size i j (fun o' ho'=>by rw [ho] at ho'; cases ho'; exact hall) ha
  have hopn:∀ j,bG .any ops ops.size j i=true→listed.getD j false=false:=fun j ha=>by
   rcases hq:listed.getD j false with _ | _
   ·rfl
   ·have hl:=bZ hcl ops.size j i (fun o' ho'=>hcl j o' ho' hq) ha
    rw [h0'] at hl; cases hl
  have hstep:=hop i o R ho hRi vs (fun j=>listed.getD j false) w ⟨h0',hclo,hopn⟩ hC (fun j' R' ha hv _ hR'=>hR j' R' (bZ hcl ops.size i j' (fun o' ho'=>by rw [ho] at ho'; cases ho'; exact hall) ha) (fun i' hi'=>by
    have hv':=List.all_eq_true.1 hv i' hi'
    simp only [Bool.or_eq_true,beq_iff_eq] at hv'
    rcases hv' with rfl | hv'
    ·exact h0'
    ·rcases hq:listed.getD i' false with _ | _
     ·rfl
     ·have hl:=bZ hcl ops.size i' i (fun o' ho'=>hcl i' o' ho' hq) hv'
      rw [h0'] at hl; cases hl) hR')
   (wpAny P .any ops Q fuel (listed.setIfInBounds i true)) (fun a' v w' ha hRv hC' hT=>by
    rw [ha,gC ops.toList 0 a₀ vs i o v hap (by simpa using ho),Nat.zero_add]
    have hC9:C (fun j=>(listed.setIfInBounds i true).getD j false) w':=by
     have e:(fun j=>(listed.setIfInBounds i true).getD j false)=Listed.but (fun j=>listed.getD j false) i:=by
      funext j
      unfold Listed.but
      by_cases e:j=i
      ·subst e; rw [if_pos rfl]; exact jj hil
      ·rw [if_neg e]; exact getD_set_ne false (Ne.symm e)
     rw [e]; exact hC'
    refine ih _ _ _ (by simpa using hs) ?_ ?_ hC9 ?_
    ·have:=er hisz hs h0'; omega
    ·intro j oj hoj hj e he hb
     by_cases hji:j=i
     ·subst hji; rw [ho] at hoj; cases hoj; exact getD_set_true (hall e he hb)
     ·rw [getD_set_ne false (Ne.symm hji)] at hj; exact getD_set_true (hcl j oj hoj hj e he hb)
    ·intro j R' hj hbr hR'
     have key:∀ (u' : Value),R'.R (vs R'.D) u' w'→R'.R (pa vs i v R'.D) u' w':=fun u' h=>by
      by_cases hDi:R'.D=i
      ·rcases (hst j R' hR').1 with hf | ha
       ·exact hf _ _ _ _ h
       ·exfalso
        have hl:listed.getD R'.D false=true:=by
         by_cases hji:j=i
         ·subst hji; exact bZ hcl ops.size j _ (fun o' ho'=>by rw [ho] at ho'; cases ho'; exact hall) ha
         ·rw [getD_set_ne false (Ne.symm hji)] at hj
          exact bZ hcl ops.size j _ (fun o' ho'=>hcl j o' ho' hj) ha
        rw [hDi,h0'] at hl; cases hl
      ·have:pa vs i v R'.D=vs R'.D:=by unfold pa; rw [if_neg hDi]
       rw [this]; exact h
     unfold ag.at
     by_cases hji:j=i
     ·subst hji; rw [hRi] at hR'; cases hR'
      have:pa vs j v j=v:=by unfold pa; rw [if_pos rfl]
      rw [this]
      exact key v hRv
     ·rw [getD_set_ne false (Ne.symm hji)] at hj
      have hai:bG .any ops ops.size j i=false:=by
       rcases hq:bG .any ops ops.size j i with _ | _
       ·rfl
       ·have hl:=bZ hcl ops.size j i (fun o' ho'=>hcl j o' ho' hj) hq
        rw [h0'] at hl; cases hl
      have hib:i ∉ R'.Br:=fun hm=>by have h1:=hbr i hm; rw [jj hil] at h1; cases h1
      have hbr' : ∀ i' ∈ R'.Br,listed.getD i' false=false:=fun i' hm=>by
       have h1:=hbr i' hm
       by_cases e:i'=i
       ·subst e; exact absurd hm hib
       ·rwa [getD_set_ne false (Ne.symm e)] at h1
      have h3:=(hst j R' hR').2 i (Ne.symm hji) hib hai _ _ _ _ (hR j R' hj hbr' hR') hT
      have:pa vs i v j=vs j:=by unfold pa; rw [if_neg hji]
      rw [this]
      refine key _ ?_
      exact h3)
  unfold wpOp
  simp only [ho]
  split
  ·rename_i hw; rw [if_pos hw] at hstep; exact .inl hstep
  ·rename_i hw; rw [if_neg hw] at hstep; exact hstep
theorem km {id:Nat} {a:Act} {w:World} {l:List Oper} (C:(Nat→Bool)→World→Prop) (T:Nat→World→World→Prop) (hm:P.follows .mixedOrders=true) (hap:dB l=true) (hdn:eJ .any l.toArray=true)
  (hC:C (fun _=>false) w.drew) (h:dZ P l.toArray Q C T (fun vs=>ax vs l 0 a) 0 l []):(Code.region id l.toArray true).wp P Q a w:=by
 refine wp_region_any hm ?_
 obtain ⟨Rs,h1,h2,h3,h4⟩:=jO (ops:=l.toArray) l 0 [] (by simp) rfl (by simp) (by simp) h
 obtain ⟨vs,hvs⟩ : ∃ vs:Nat→Value,∀ i o t,l[i]?=some o→o.dst=some t→vs (0+i)=a.tmps.getD t undef :=
  ⟨fun i=>match (l[i]?).bind (·.dst) with | some t=>a.tmps.getD t undef | none=>undef,fun i o t hi ht=>by simp [hi,ht]⟩
 have:=np (P:=P) (Q:=Q) (ops:=l.toArray) (C:=C) (T:=T) (a₀:=a) hap hdn Rs (by simpa using h1) h2 h3 h4 l.toArray.size (Array.replicate l.toArray.size false) vs w.drew (by simp)
  (Nat.le_trans (List.length_filter_le _ _) (by simp)) (fun j o hj hl=>by simp [Array.getD] at hl) (by
   have e:(fun j=>(Array.replicate l.toArray.size false).getD j false)=fun _=>false:=by funext j; simp [Array.getD]
   rw [e]; exact hC) (fun j R hl=>by simp [Array.getD] at hl)
 rwa [fJ vs _ 0 a (by simpa using hvs)] at this
end
def Sw (s:Nat) (C0 C1:World→Prop) (L:Nat→Bool) (w:World):Prop:=if L s=true then C1 w else C0 w
section
variable {ops:Array Oper} {s k:Nat} {C0 C1:World→Prop} {L:Nat→Bool} {w w' : World}
theorem Sw.start (h:C0 w):Sw s C0 C1 (fun _=>false) w:=by unfold Sw; rw [if_neg (by simp)]; exact h
theorem Sw.before (hG:jb ops L k) (ha:bG .any ops ops.size s k=true) (h:Sw s C0 C1 L w):C0 w:=by
 unfold Sw at h; rwa [if_neg (by rw [hG.open_ s ha]; simp)] at h
theorem Sw.stay (hG:jb ops L k) (ha:bG .any ops ops.size s k=true) (hne:s ≠ k) (h:C0 w):Sw s C0 C1 (Listed.but L k) w:=by
 unfold Sw Listed.but; rw [if_neg (by rw [if_neg hne,hG.open_ s ha]; simp)]; exact h
theorem Sw.here (hG:jb ops L s) (h:Sw s C0 C1 L w):C0 w:=by unfold Sw at h; rwa [if_neg (by rw [hG.self]; simp)] at h
theorem Sw.turn (h:C1 w):Sw s C0 C1 (Listed.but L s) w:=by unfold Sw Listed.but; rw [if_pos (if_pos rfl)]; exact h
theorem Sw.after (hG:jb ops L k) (ha:bG .any ops ops.size k s=true) (h:Sw s C0 C1 L w):C1 w:=by unfold Sw at h; rwa [if_pos (hG.done s ha)] at h
theorem Sw.on (hG:jb ops L k) (ha:bG .any ops ops.size k s=true) (h:C1 w):Sw s C0 C1 (Listed.but L k) w:=by
 unfold Sw Listed.but; rw [if_pos (by rw [hG.done s ha]; simp)]; exact h
theorem Sw.both (hne:s ≠ k) (h0:C0 w→C0 w') (h1:C1 w→C1 w') (h:Sw s C0 C1 L w):Sw s C0 C1 (Listed.but L k) w':=by
 unfold Sw Listed.but at *
 rw [if_neg hne]
 split at h
 ·rename_i e; rw [if_pos e]; exact h1 h
 ·rename_i e; rw [if_neg e]; exact h0 h
theorem Sw.done (hL:∀ j,j < ops.size→L j=true) (hs:s < ops.size) (h:Sw s C0 C1 L w):C1 w:=by unfold Sw at h; rwa [if_pos (hL s hs)] at h
end
section
variable {P:Program} {ops:Array Oper} {Q:Exit→Act→World→Prop}
def eC (P:Program) (ops:Array Oper) (Q:Exit→Act→World→Prop) (C:(Nat→Bool)→World→Prop) (T:Nat→World→World→Prop) (fr:(Nat→Value)→Act):Nat→List Oper→List ag→Prop
 | k,[],Rs=>∀ vs L w,(∀ j,j < ops.size→L j=true)→C L w→(∀ (j:Nat) (R:ag),R.Br = []→Rs[k - 1 - j]?=some R→j < k→R.at vs j w)→Q .normal (fr vs) w
 | k,o :: l,Rs=>∃ R:ag,R.fine ops k∧R.firm ops T k ∧
  (∀ vs L w,jb ops L k→C L w→(∀ (j:Nat) (R' : ag),bG .any ops ops.size k j=true→R'.live ops k=true→Rs[k - 1 - j]?=some R'→j < k→R'.at vs j w)→∀ K:Act→World→Prop,(∀ a' v w',a'=(fr vs).put o.dst v→R.R (vs R.D) v w'→C (Listed.but L k) w'→T k w w'→K a' w') →
   if Region.wanted o (yielded ops (fr vs).tmps)=true then o.wp P (fr vs) w K Q else K ((fr vs).put o.dst undef) w) ∧
  eC P ops Q C T fr (k+1) l (R :: Rs)
theorem oe {Rs:List ag} {k j:Nat} {R:ag} (hk:Rs.length=k) (h:Rs[k - 1 - j]?=some R) (hj:j < k):Rs.reverse[j]?=some R:=by
 rw [List.getElem?_reverse (by omega),hk]; exact h
theorem lR {C:(Nat→Bool)→World→Prop} {T:Nat→World→World→Prop} {fr:(Nat→Value)→Act} : ∀ (l:List Oper) (k:Nat) (Rs:List ag),Rs.length=k→eC P ops Q C T fr k l Rs→dZ P ops Q C T fr k l Rs.reverse
 | [],_,_,hk,h=>fun vs L w hL hC hB=>h vs L w hL hC fun j R hb hR hj=>hB j R hb (oe hk hR hj)
 | _ :: l,k,Rs,hk,⟨R,h1,h2,h3,h4⟩=>⟨R,h1,h2,fun vs L w hG hC hB K hK=>h3 vs L w hG hC (fun j R' ha hv hR hj=>hB j R' ha hv (oe hk hR hj)) K hK,by
   have:=lR l (k+1) (R :: Rs) (by simp [hk]) h4
   rwa [List.reverse_cons] at this⟩
theorem an {id:Nat} {a:Act} {w:World} {l:List Oper} (C:(Nat→Bool)→World→Prop) (T:Nat→World→World→Prop) (hm:P.follows .mixedOrders=true) (hap:dB l=true) (hdn:eJ .any l.toArray=true)
  (hC:C (fun _=>false) w.drew) (h:eC P l.toArray Q C T (fun vs=>ax vs l 0 a) 0 l []):(Code.region id l.toArray true).wp P Q a w :=
 km C T hm hap hdn hC (lR l 0 [] rfl h)
theorem az {C:(Nat→Bool)→World→Prop} {T:Nat→World→World→Prop} {fr:(Nat→Value)→Act} {k:Nat} {Rs:List ag} (h:∀ vs L w,(∀ j,j < ops.size→L j=true)→C L w→(∀ (j:Nat) (R:ag),R.Br = []→Rs[k - 1 - j]?=some R→j < k→R.at vs j w)→Q .normal (fr vs) w):eC P ops Q C T fr k [] Rs:=h
theorem aa {C:(Nat→Bool)→World→Prop} {T:Nat→World→World→Prop} {fr:(Nat→Value)→Act} {k:Nat} {o:Oper} {l:List Oper} {Rs:List ag} (V:Value)
  (h1:∀ vs L w,jb ops L k→C L w→(∀ (j:Nat) (R' : ag),bG .any ops ops.size k j=true→R'.live ops k=true→Rs[k - 1 - j]?=some R'→j < k→R'.at vs j w)→∀ K:Act→World→Prop,(∀ a' w',a'=(fr vs).put o.dst V→C (Listed.but L k) w'→T k w w'→K a' w') →
   if Region.wanted o (yielded ops (fr vs).tmps)=true then o.wp P (fr vs) w K Q else K ((fr vs).put o.dst undef) w)
  (h2:eC P ops Q C T fr (k+1) l (⟨0,fun _ v _=>v=V,[]⟩ :: Rs)):eC P ops Q C T fr k (o :: l) Rs :=
 ⟨⟨0,fun _ v _=>v=V,[]⟩,.inl (fun _ _ _ _ h=>h),fun _ _ _ _ _ _ _ _ h _=>h,fun vs L w hG hC hB K hK=>h1 vs L w hG hC hB K fun a' w' ha hC' hT=>hK a' V w' ha rfl hC' hT,h2⟩
theorem ak {C:(Nat→Bool)→World→Prop} {T:Nat→World→World→Prop} {fr:(Nat→Value)→Act} {k:Nat} {o:Oper} {l:List Oper} {Rs:List ag} (Br:List Nat) (R:Value→World→Prop) (hR:∀ i,i ≠ k→i ∉ Br→bG .any ops ops.size k i=false→∀ v w w',R v w→T i w w'→R v w')
  (h1:∀ vs L w,jb ops L k→C L w→(∀ (j:Nat) (R' : ag),bG .any ops ops.size k j=true→R'.live ops k=true→Rs[k - 1 - j]?=some R'→j < k→R'.at vs j w)→∀ K:Act→World→Prop,(∀ a' v w',a'=(fr vs).put o.dst v→R v w'→C (Listed.but L k) w'→T k w w'→K a' w') →
   if Region.wanted o (yielded ops (fr vs).tmps)=true then o.wp P (fr vs) w K Q else K ((fr vs).put o.dst undef) w)
  (h2:eC P ops Q C T fr (k+1) l (⟨0,fun _ v w=>R v w,Br⟩ :: Rs)):eC P ops Q C T fr k (o :: l) Rs :=
 ⟨⟨0,fun _ v w=>R v w,Br⟩,.inl (fun _ _ _ _ h=>h),fun i hi hb ha _ v w w' h t=>hR i hi hb ha v w w' h t,h1,h2⟩
theorem bs {C:(Nat→Bool)→World→Prop} {T:Nat→World→World→Prop} {fr:(Nat→Value)→Act} {k:Nat} {o:Oper} {l:List Oper} {Rs:List ag} (Br:List Nat) (D:Nat) (R:Value→Value→World→Prop) (hD:bG .any ops ops.size k D=true) (hR:∀ i,i ≠ k→i ∉ Br→bG .any ops ops.size k i=false→∀ u v w w',R u v w→T i w w'→R u v w')
  (h1:∀ vs L w,jb ops L k→C L w→(∀ (j:Nat) (R' : ag),bG .any ops ops.size k j=true→R'.live ops k=true→Rs[k - 1 - j]?=some R'→j < k→R'.at vs j w)→∀ K:Act→World→Prop,(∀ a' v w',a'=(fr vs).put o.dst v→R (vs D) v w'→C (Listed.but L k) w'→T k w w'→K a' w') →
   if Region.wanted o (yielded ops (fr vs).tmps)=true then o.wp P (fr vs) w K Q else K ((fr vs).put o.dst undef) w)
  (h2:eC P ops Q C T fr (k+1) l (⟨D,R,Br⟩ :: Rs)):eC P ops Q C T fr k (o :: l) Rs :=
 ⟨⟨D,R,Br⟩,.inr hD,hR,h1,h2⟩
end
theorem fe {ops:Array Oper} {k:Nat} {Rs:List ag} {vs:Nat→Value} {w:World} (hB:∀ (j:Nat) (R:ag),bG .any ops ops.size k j=true→R.live ops k=true→Rs[k-1-j]?=some R→j<k→R.at vs j w) (j:Nat) {V:Value} (h3:Rs[k-1-j]?=some ⟨0,fun _ v _=>v=V,[]⟩:=by rfl) (h1:bG .any ops ops.size k j=true:=by kernel_rfl) (h4:j<k:=by decide):vs j=V:=ag.eq (hB j _ h1 rfl h3 h4)
theorem fs {ops:Array Oper} {k:Nat} {Rs:List ag} {vs:Nat→Value} {w:World} (hB:∀ (j:Nat) (R:ag),bG .any ops ops.size k j=true→R.live ops k=true→Rs[k-1-j]?=some R→j<k→R.at vs j w) (j:Nat) {R:ag} (h3:Rs[k-1-j]?=some R:=by rfl) (h1:bG .any ops ops.size k j=true:=by kernel_rfl) (h2:R.live ops k=true:=by kernel_rfl) (h4:j<k:=by decide):R.at vs j w:=hB j _ h1 h2 h3 h4
theorem sy {ops:Array Oper} {s k:Nat} {C0 C1:World→Prop} {L:Nat→Bool} {w:World} (hG:jb ops L k) (h:C0 w) (ha:bG .any ops ops.size s k=true:=by kernel_rfl) (hne:s≠k:=by decide):Sw s C0 C1 (Listed.but L k) w:=Sw.stay hG ha hne h
theorem sb {ops:Array Oper} {s k:Nat} {C0 C1:World→Prop} {L:Nat→Bool} {w:World} (h:Sw s C0 C1 L w) (hG:jb ops L k) (ha:bG .any ops ops.size s k=true:=by kernel_rfl):C0 w:=Sw.before hG ha h
theorem ai.apart {w:World} {g g' : Nat} {t t' : TypeId} {cs cs' : List Value} (h:ai w g t cs) (h' : ai w g' t' cs') (hne:t ≠ t'):g ≠ g':=by
 intro e
 subst e
 unfold ai at h h'
 rw [h] at h'
 injection h' with h'; injection h' with _ h2; exact hne h2
theorem ne_to:104 ≠ 147:=by decide
section
variable {P:Program} {ops:Array Oper} {tm:Array Value} {o:Oper} {a:Act} {w:World} {K:Act→World→Prop} {Q:Exit→Act→World→Prop} {E:Prop}
theorem ly {t e:TypeId} (ht:P.underlying t=some (.slice e)):P.underlying t=some (.slice (P.elem t))∧P.elem t=e:=by
 have:P.elem t=e:=by simp [Program.elem,ht]
 exact ⟨by rw [this]; exact ht,this⟩
theorem br.take {B k n:Nat} {A:Option Addr} {cs:List Value} (h:br w B k A n cs) (i:Nat) (hi:i≤n):br w B k A i (cs.take (i * k)):=by
 have hm:i * k≤n * k:=Nat.mul_le_mul_right k hi
 refine ⟨by rw [List.length_take,h.len]; omega,by have:=h.big; omega,fun h0=>?_⟩
 obtain ⟨b,off,e,hb,hc⟩:=h.at_ (by omega)
 exact ⟨b,off,e,hb,fun j u hu=>hc j u (by rw [List.getElem?_take] at hu; split at hu; exact hu; cases hu)⟩
theorem br.drop {B k n:Nat} {A A' : Option Addr} {cs:List Value} (h:br w B k A n cs) (i:Nat) (hi:i≤n) (hA:i < n→A'=A.map fun p=>p.add (i * k)):br w B k A' (n - i) (cs.drop (i * k)):=by
 refine ⟨by rw [List.length_drop,h.len,Nat.sub_mul],by have:=h.big; omega,fun h0=>?_⟩
 obtain ⟨b,off,e,hb,hc⟩:=h.at_ (by omega)
 refine ⟨b,off+i * k, ?_,hb,fun j u hu=>?_⟩
 ·rw [hA (by omega),e]; simp only [Option.map_some,bY]
 ·rw [List.getElem?_drop] at hu
  have:=hc _ u hu
  rwa [Nat.add_assoc]
theorem mO {e:TypeId} {s:Nat} (hs:(P.info? e).map (·.size)=some s):∃ inf,P.info? e=some inf∧inf.size=s:=by
 cases hq:P.info? e with
 | none=>simp [hq] at hs
 | some inf=>exact ⟨inf,rfl,by simpa [hq] using hs⟩
theorem rH (A:Option Addr):A.map (fun p=>p.add 0)=A:=by cases A <;> simp [Addr.add]
theorem og {t e:TypeId} (ht:P.underlying t=some (.slice e)) {s:Nat} (hs:(P.info? e).map (·.size)=some s) (A:Option Addr) (n c i:Nat) (hi:i≤n) (hc:n≤c) (w:World) :
  (Instr.slice t (.slice A n c) none (some (.int .i64 (i:Int))) none).run P w=.ok (.slice A i c) w:=by
 obtain ⟨h1,h2⟩:=ly ht
 obtain ⟨inf,hin,hsz⟩:=mO hs
 rw [run_slice_h (P:=P) (w:=w) t A n c h1 .i64 (i:Int) (by omega) (by omega),h2]
 simp [sizeOf,typeInfo,hin,sliced,rH]
theorem my {t e:TypeId} (ht:P.underlying t=some (.slice e)) {s:Nat} (hs:(P.info? e).map (·.size)=some s) (A:Option Addr) (n c i:Nat) (hi:i≤n) (w:World) :
  (Instr.slice t (.slice A n c) (some (.int .i64 (i:Int))) none none).run P w=.ok (.slice (if c=i then A else A.map (fun p=>p.add (i * s))) (n - i) (c - i)) w:=by
 obtain ⟨h1,h2⟩:=ly ht
 obtain ⟨inf,hin,hsz⟩:=mO hs
 rw [run_slice_l (P:=P) (w:=w) t A n c h1 .i64 (i:Int) (by omega) (by omega),h2]
 simp [sizeOf,typeInfo,hin,sliced,hsz]
theorem jP (hg:o.guard=none) (t e:TypeId) (x y:Operand) (ho:o.op=.slice t x none (some y) none) (ht:P.underlying t=some (.slice e)) (s:Nat) (hs:(P.info? e).map (·.size)=some s)
  (A:Option Addr) (n c i:Nat) (hx:a.eval x=.slice A n c) (hy:a.eval y=.int .i64 (i:Int)) (hi:i≤n) (hc:n≤c)
  (h:K (a.put o.dst (.slice A i c)) w):if Region.wanted o (yielded ops tm)=true then o.wp P a w K Q else E:=by
 have hw:∀ tm:Array Value,Region.wanted o (yielded ops tm)=true:=fun tm=>by simp [Region.wanted,hg]
 rw [if_pos (hw _)]
 unfold Oper.wp execOp
 simp only [ho,hx,Option.map_some,Option.map_none,hy,run_sliceAt_slice (P:=P) (w:=w) t _ _ _ _ (ly ht).1,og ht hs A n c i hi hc w,Sem.run_bind,Sem.run_pure,Result.andThen_ok]
 exact h
theorem iK (hg:o.guard=none) (t e:TypeId) (x y:Operand) (ho:o.op=.slice t x (some y) none none) (ht:P.underlying t=some (.slice e)) (s:Nat) (hs:(P.info? e).map (·.size)=some s)
  (A:Option Addr) (n c i:Nat) (hx:a.eval x=.slice A n c) (hy:a.eval y=.int .i64 (i:Int)) (hi:i≤n) (hc:n≤c)
  (h:∀ A',(∀ (W:World) (B:Nat) (cs:List Value),br W B s A n cs→br W B s A' (n - i) (cs.drop (i * s)))→K (a.put o.dst (.slice A' (n - i) (c - i))) w):if Region.wanted o (yielded ops tm)=true then o.wp P a w K Q else E:=by
 have hw:∀ tm:Array Value,Region.wanted o (yielded ops tm)=true:=fun tm=>by simp [Region.wanted,hg]
 rw [if_pos (hw _)]
 unfold Oper.wp execOp
 simp only [ho,hx,Option.map_some,Option.map_none,hy,run_sliceAt_slice (P:=P) (w:=w) t _ _ _ _ (ly ht).1,my ht hs A n c i hi w,Sem.run_bind,Sem.run_pure,Result.andThen_ok]
 exact h _ fun W B cs hr=>hr.drop i hi fun hlt=>by rw [if_neg (by omega)]
theorem jQ (hg:o.guard=none) (s x:Operand) (t:TypeId) (ho:o.op=.call { callee:=.builtin .append,args:=#[s,x],argTypes:=#[t,t] })
  (e:TypeId) (z:Value) (k bytes:Nat) (ht:P.underlying t=some (.slice e)) (hinfo:(P.info? e).map (fun i=>(i.zero,i.size,i.bytes))=some (some z,k,bytes)) (hzs:z.cells.size=k) (hsz:0 < k) (hby:bytes≤1000)
  (B:Nat) (v:Value) (n:Nat) (xs:List Value) (hs:a.eval s=v) (hown:w.ownsRow B e k v n xs)
  (S:Nat) (A:Option Addr) (m c:Nat) (cs:List Value) (hx:a.eval x=.slice A m c) (hr:br w S k A m cs) (h1:∀ u ∈ cs,u.oneCell'=true)
  (hn:n+m≤1000000000) (hbase:B≤w.heap.size)
  (h:∀ A' c' w',w'.ownsRow B e k (.slice A' (n+m) c') (n+m) (xs++cs)→w.grownBy w' v.ownBlock→Below B w w'→K (a.put o.dst (.slice A' (n+m) c')) w'):if Region.wanted o (yielded ops tm)=true then o.wp P a w K Q else E:=by
 have hw:∀ tm:Array Value,Region.wanted o (yielded ops tm)=true:=fun tm=>by simp [Region.wanted,hg]
 rw [if_pos (hw _)]
 refine rE s x t ho e z k bytes ht hinfo hzs hsz hby B v n xs hs (Lib.hid hown) S A m c cs hx (Lib.hid hr) h1 hn hbase fun v' w' h2 h3 h4 _=>?_
 obtain ⟨A',c',rfl⟩:=aw h2.out
 exact h A' c' w' h2.out h3 h4
theorem iL {B k n:Nat} {e:TypeId} {A:Option Addr} {c:Nat} {xs:List Value} (h:w.ownsRow B e k (.slice A n c) n xs):n≤c:=by
 obtain ⟨_,⟨h0,h1⟩ | ⟨g,cap,cur,hv,_,_,hc,_⟩⟩:=h
 ·injection h0 with _ h2 h3; omega
 ·injection hv with _ _ h3; omega
end
def cW (W:World) (g:Nat) (v0 v1 v2 v3 v4:Value):World:=((((W.setCell ⟨g,0,none⟩ v0).setCell ⟨g,1,none⟩ v1).setCell ⟨g,2,none⟩ v2).setCell ⟨g,3,none⟩ v3).setCell ⟨g,4,none⟩ v4
section
variable {W:World} {g:Nat} {a b c d e v0 v1 v2 v3 v4:Value}
theorem fb (h:ai W g 40 [a,b,c,d,e]):ai (cW W g v0 v1 v2 v3 v4) g 40 [v0,v1,v2,v3,v4]:=((((h.set 0 v0).set 1 v1).set 2 v2).set 3 v3).set 4 v4
theorem iM:W.grownBy (cW W g v0 v1 v2 v3 v4) (some g):=ac (ac (ac (ac (ac (World.grownBy.refl W (some g))))))
theorem aW {B k n:Nat} {t:TypeId} {v:Value} {xs:List Value} (h:ai W g 40 [a,b,c,d,e]) (ho:W.ownsRow B t k v n xs) (hne:t ≠ 40):(cW W g v0 v1 v2 v3 v4).ownsRow B t k v n xs:=aj ho h hne iM
theorem bK {B:Nat} (h:ai W g 40 [a,b,c,d,e]) (hB:B≤g):Below B W (cW W g v0 v1 v2 v3 v4) :=
 (Below.refl B W).grown iM (Nat.le_of_lt (Nat.lt_of_le_of_lt hB h.lt)) (by rintro _ ⟨⟩; exact hB)
theorem oh {g' : Nat} {t:TypeId} {cs:List Value} (h:ai W g' t cs) (hne:g' ≠ g):ai (cW W g v0 v1 v2 v3 v4) g' t cs:=h.kept iM (by simpa using hne)
end
theorem dr.of {w w' : World} {e:Ending} {y:Oc} {TA OA:Option Addr} {tc oc m k:Nat} (hm:y.t.length=m) (hk:y.o.length=k) (he:e=.returned (.agg #[F TA m tc,F OA k oc,O U y.got,O U y.sold,O U y.missed]))
  (h8:w'.ownsRow w.heap.size 104 2 (F TA m tc) y.t.length (y.t.flatMap aq.enc)) (h9:w'.ownsRow w.heap.size 147 3 (F OA k oc) y.o.length (y.o.flatMap ae.enc)) (hb:Below w.heap.size w w'):dr w y e w':=by
 subst hm; subst hk
 exact ⟨TA,tc,OA,oc,he,h8,h9,hb⟩
set_option maxRecDepth 100000 in
set_option maxHeartbeats 4000000 in
theorem qI (x:aM) (kd n:Int) (w:World) (h:aQ w w.heap.size x) (tl:x.t.length≤1000000) (ol:x.o.length≤1000000) (hbd:∀ i (hi:i < x.t.length), -1000000000≤x.t[i].c∧x.t[i].c≤1000000000) (hn : -1000000000≤n∧n≤1000000000) (hx:0≤av x.t kd) :
  Calls Tryz.prog 173 #[x.val,O U kd,O U n] w (dr w ⟨ah x.t kd n,x.o,x.got,x.sold,x.missed⟩):=by
 obtain ⟨i,hi⟩ : ∃ i:Nat,av x.t kd=i:=⟨(av x.t kd).toNat,by omega⟩
 have hil:i < x.t.length:=by have:=kc hx; omega
 have hin:=f8 (n:=n) hi hil
 obtain ⟨n1,n2⟩:=hn
 obtain ⟨u1,u2⟩:=hbd i hil
 clear hbd hx
 obtain ⟨tr,htr⟩ : ∃ tr,tr=x.t[i]:=⟨_,rfl⟩
 rw [← htr] at hin u1 u2
 have HI:=Lib.hid hin; clear hin
 have L1:=(ai.new w 40 #[F x.TA x.t.length x.tc,F x.OA x.o.length x.oc,O U x.got,O U x.sold,O U x.missed]).alloc (.cells #[F none 0 0,F none 0 0,O U 0,O U 0,O U 0] 40)
 have L2:=ai.new1 w (.cells #[F x.TA x.t.length x.tc,F x.OA x.o.length x.oc,O U x.got,O U x.sold,O U x.missed] 40) 40 #[F none 0 0,F none 0 0,O U 0,O U 0,O U 0]
 have b1:=(Below.refl w.heap.size w).alloc (Nat.le_refl _) (.cells #[F x.TA x.t.length x.tc,F x.OA x.o.length x.oc,O U x.got,O U x.sold,O U x.missed] 40)
 have b2:=b1.alloc b1.size (.cells #[F none 0 0,F none 0 0,O U 0,O U 0,O U 0] 40)
 clear b1
 go_enter Tryz.func173,Tryz.ntmps173
 go_wp2_with fail
 generalize ((w.alloc (.cells #[F x.TA x.t.length x.tc,F x.OA x.o.length x.oc,O U x.got,O U x.sold,O U x.missed] 40)).alloc (.cells #[F none 0 0,F none 0 0,O U 0,O U 0,O U 0] 40))=W at L1 L2 b2 ⊢
 have hR:=h.up b2 (Nat.le_refl _)
 refine (io x W hR tl ol).mono ?_
 rintro e W2 ⟨TA,tc,OA,oc,he,hT,hO,hb2⟩
 have he:e=.returned (.agg #[F TA x.t.length tc,F OA x.o.length oc,O U x.got,O U x.sold,O U x.missed]):=he
 subst he
 simp only [aM.c] at hT hO
 have L1a:=(L1.below hb2 L1.lt).alloc (.cells #[F TA x.t.length tc,F OA x.o.length oc,O U x.got,O U x.sold,O U x.missed] 40)
 have L2a:=(L2.below hb2 L2.lt).alloc (.cells #[F TA x.t.length tc,F OA x.o.length oc,O U x.got,O U x.sold,O U x.missed] 40)
 have P1:=ai.new W2 40 #[F TA x.t.length tc,F OA x.o.length oc,O U x.got,O U x.sold,O U x.missed]
 have hal:=(Below.refl W2.heap.size W2).alloc (Nat.le_refl _) (.cells #[F TA x.t.length tc,F OA x.o.length oc,O U x.got,O U x.sold,O U x.missed] 40)
 have hT3:=af (ab hT hal) b2.size
 have hO3:=af (ab hO hal) b2.size
 have b3:=b2.trans ((ar hb2 hal).mono b2.size)
 have hR3:=(hR.then hb2).then hal
 have hg7:w.heap.size≤W2.heap.size:=Nat.le_trans b2.size hb2.size
 have hg8:w.heap.size+1 < W2.heap.size:=Nat.lt_of_lt_of_le L2.lt hb2.size
 obtain ⟨c0,c1,c2,c3,c4⟩:=cells5 L1a
 clear L1 L2 b2 hb2 hT hO hal hR h
 obtain ⟨W3,hW3⟩ : ∃ W3,W2.alloc (.cells #[F TA x.t.length tc,F OA x.o.length oc,O U x.got,O U x.sold,O U x.missed] 40)=W3:=⟨_,rfl⟩
 rw [hW3] at L1a L2a P1 hT3 hO3 b3 hR3 c0 c1 c2 c3 c4
 go_wp2_with (rw [hW3])
 clear hW3
 refine (bx x kd W3 hR3).mono ?_
 rintro e W4 ⟨rfl,hb4⟩
 rw [hi]
 obtain ⟨bA,off,hA,hbA,hcell⟩:=eX.el (hR3.then hb4).ts (by omega)
 obtain ⟨e0,e1⟩:=hcell i hil
 rw [← htr] at e0 e1
 have HTR:=Lib.hid htr; clear htr hcell e0
 have L1b:=L1a.below hb4 L1a.lt
 have L2b:=L2a.below hb4 L2a.lt
 have P1b:=P1.below hb4 P1.lt
 have hT4:=ab hT3 hb4
 have hO4:=ab hO3 hb4
 have b4:=b3.trans (hb4.mono b3.size)
 clear L1a L2a P1 hT3 hO3 b3 hR3 hb4 c0 c1 c2 c3 c4 hi
 obtain ⟨gT,cT,restT,hvT,hgT,LT,hcT⟩:=bJ hT4 (by omega)
 injection hvT with hTA _ htc
 subst hTA; subst htc
 have hOff:aA W4 w.heap.size W2.heap.size (F (some ⟨gT,0,none⟩) x.t.length tc) (F OA x.o.length oc) ⟨x.t,x.o,x.got,x.sold,x.missed⟩:=⟨P1b,hg7,hT4,hO4⟩
 simp only [hA] at L1b
 have hne:=LT.apart L2b (by decide)
 have hge:(0:Int)≤(i:Int):=by omega
 have hgi:decide ((i:Int) ≥ 0)=true:=decide_eq_true hge
 clear LT hT4 hO4 P1b hA
 go_wp2
 refine an (Sw 13 (fun W9=>Below W4.heap.size W4 W9) (fun W9=>∃ W8,Below W4.heap.size W4 W8∧W9=W8.setCell ⟨gT,i * 2+1,none⟩ (O U (tr.c+n)))) (fun i w1 w2=>i ∉ [13]→Below w1.heap.size w1 w2) (by kernel_rfl) (by kernel_rfl) (by kernel_rfl) (Sw.start (Below.refl _ _).drew) ?_
 simp only [ax,Act.put,List.setIfInBounds_toArray,List.set_cons_zero,List.set_cons_succ,Nat.zero_add,Nat.reduceAdd]
 apply aa
 case h1 =>
  intro vs L9 w9 hG9 hC9 hB K9 hK9
  replace hC9:=sb hC9 hG9
  simp only [Act.put,sA,s0,s1] at hK9
  go_simp
  exact hK9 _ _ rfl (sy hG9 hC9) bR
 apply aa
 case h1 =>
  intro vs L9 w9 hG9 hC9 hB K9 hK9
  replace hC9:=sb hC9 hG9
  have d0:=fe hB 0
  simp only [d0] at hK9 ⊢
  have q0:w9.cell? ⟨W2.heap.size,0,none⟩=some (F (some ⟨gT,0,none⟩) x.t.length tc):=(hOff.lies.below hC9 hOff.lies.lt).cell 0
  simp only [Act.put,sA,s0,s1] at hK9
  go_simp
  exact hK9 _ _ rfl (sy hG9 hC9) bR
 apply aa
 case h1 =>
  intro vs L9 w9 hG9 hC9 hB K9 hK9
  replace hC9:=sb hC9 hG9
  simp only [Act.put,sA,s0,s1] at hK9
  go_simp
  exact hK9 _ _ rfl (sy hG9 hC9) bR
 apply aa
 case h1 =>
  intro vs L9 w9 hG9 hC9 hB K9 hK9
  replace hC9:=sb hC9 hG9
  simp only [Act.put,sA,s0,s1] at hK9
  go_simp
  exact hK9 _ _ rfl (sy hG9 hC9) bR
 apply aa
 case h1 =>
  intro vs L9 w9 hG9 hC9 hB K9 hK9
  replace hC9:=sb hC9 hG9
  have d3:=fe hB 3
  simp only [d3] at hK9 ⊢
  have q0:w9.cell? ⟨w.heap.size,0,none⟩=some (F (some ⟨bA,off,none⟩) x.t.length x.tc):=(L1b.below hC9 L1b.lt).cell 0
  simp only [Act.put,sA,s0,s1] at hK9
  go_simp
  exact hK9 _ _ rfl (sy hG9 hC9) bR
 apply aa
 case h1 =>
  intro vs L9 w9 hG9 hC9 hB K9 hK9
  replace hC9:=sb hC9 hG9
  simp only [Act.put,sA,s0,s1] at hK9
  go_simp
  exact hK9 _ _ rfl (sy hG9 hC9) bR
 apply aa
 case h1 =>
  intro vs L9 w9 hG9 hC9 hB K9 hK9
  replace hC9:=sb hC9 hG9
  have d4:=fe hB 4
  have d5:=fe hB 5
  simp only [d4,d5] at hK9 ⊢
  simp only [Act.put,sA,s0,s1] at hK9
  go_simp
  exact hK9 _ _ rfl (sy hG9 hC9) bR
 apply aa
 case h1 =>
  intro vs L9 w9 hG9 hC9 hB K9 hK9
  replace hC9:=sb hC9 hG9
  have d6:=fe hB 6
  simp only [d6] at hK9 ⊢
  simp only [Act.put,sA,s0,s1] at hK9
  go_simp
  exact hK9 _ _ rfl (sy hG9 hC9) bR
 apply aa
 case h1 =>
  intro vs L9 w9 hG9 hC9 hB K9 hK9
  replace hC9:=sb hC9 hG9
  have d7:=fe hB 7
  simp only [d7] at hK9 ⊢
  have q0:w9.cell? ⟨bA,off+i * 2+1,none⟩=some (O U tr.c):=e1 ⟨w9,hC9⟩
  simp only [Act.put,sA,s0,s1] at hK9
  go_simp
  exact hK9 _ _ rfl (sy hG9 hC9) bR
 apply aa
 case h1 =>
  intro vs L9 w9 hG9 hC9 hB K9 hK9
  replace hC9:=sb hC9 hG9
  simp only [Act.put,sA,s0,s1] at hK9
  go_simp
  exact hK9 _ _ rfl (sy hG9 hC9) bR
 apply aa
 case h1 =>
  intro vs L9 w9 hG9 hC9 hB K9 hK9
  replace hC9:=sb hC9 hG9
  have d8:=fe hB 8
  have d9:=fe hB 9
  simp only [d8,d9] at hK9 ⊢
  have i3:IntKind.i64.wrap (tr.c+n)=tr.c+n:=IntWalk.i64_in _ (by omega)
  simp only [Act.put,sA,s0,s1] at hK9
  go_simp
  exact hK9 _ _ rfl (sy hG9 hC9) bR
 apply aa
 case h1 =>
  intro vs L9 w9 hG9 hC9 hB K9 hK9
  replace hC9:=sb hC9 hG9
  have d1:=fe hB 1
  have d2:=fe hB 2
  simp only [d1,d2] at hK9 ⊢
  simp only [Act.put,sA,s0,s1] at hK9
  go_simp
  exact hK9 _ _ rfl (sy hG9 hC9) bR
 apply aa
 case h1 =>
  intro vs L9 w9 hG9 hC9 hB K9 hK9
  replace hC9:=sb hC9 hG9
  have d11:=fe hB 11
  simp only [d11] at hK9 ⊢
  simp only [Act.put,sA,s0,s1] at hK9
  go_simp
  exact hK9 _ _ rfl (sy hG9 hC9) bR
 refine aa (undef) (fun vs L9 w9 hG9 hC9 hB K9 hK9=>?ha13) ?ra13
 case ha13 =>
  replace hC9:=hC9.here hG9
  have d10:=fe hB 10
  have d12:=fe hB 12
  simp only [d10,d12] at hK9 ⊢
  obtain ⟨_,_,q0,f0⟩:=aA.setT' (y:=⟨x.t,x.o,x.got,x.sold,x.missed⟩) (hOff.then hC9) hil tr HTR.out.symm (tr.c+n)
  go_simp
  exact hK9 _ _ rfl (Sw.turn ⟨w9,hC9,rfl⟩) (fun hq=>(hq (by decide)).elim)
 refine az fun vs L9 w9 hL9 hC9 hB=>?_
 replace hC9:=hC9.done hL9 (by decide)
 obtain ⟨W8,hb8,rfl⟩:=hC9
 clear hB hL9
 obtain ⟨hO10,hb10,_,_⟩:=aA.setT' (y:=⟨x.t,x.o,x.got,x.sold,x.missed⟩) (hOff.then hb8) hil tr HTR.out.symm (tr.c+n)
 have b10:=(b4.trans (hb8.mono b4.size)).trans hb10
 have L2c:=(L2b.below hb8 L2b.lt).other (p:=⟨gT,i * 2+1,none⟩) (Ne.symm hne) (O U (tr.c+n))
 generalize W8.setCell ⟨gT,i * 2+1,none⟩ (O U (tr.c+n))=W9 at hO10 b10 L2c ⊢
 have P9:=hO10.lies
 have hrow:=aW (v0:=F (some ⟨gT,0,none⟩) x.t.length tc) (v1:=F OA x.o.length oc) (v2:=O U x.got) (v3:=O U x.sold) (v4:=O U x.missed) L2c hO10.t cq
 have hrow2:=aW (v0:=F (some ⟨gT,0,none⟩) x.t.length tc) (v1:=F OA x.o.length oc) (v2:=O U x.got) (v3:=O U x.sold) (v4:=O U x.missed) L2c hO10.o cF
 have bz:=b10.trans (bK (v0:=F (some ⟨gT,0,none⟩) x.t.length tc) (v1:=F OA x.o.length oc) (v2:=O U x.got) (v3:=O U x.sold) (v4:=O U x.missed) L2c (Nat.le_succ _))
 have R8:=Lib.hid hrow
 have R9:=Lib.hid hrow2
 obtain ⟨c0,c1,c2,c3,c4⟩:=cells5 P9
 obtain ⟨z0,z1,z2,z3,z4⟩:=cells5 L2c
 obtain ⟨f0,f1,f2,f3,f4⟩:=frz5 L2c
 clear hrow hrow2 hO10 hb10 P9 L2c
 go_wp2
 refine bodyPost_ret (v:=.agg #[F (some ⟨gT,0,none⟩) x.t.length tc,F OA x.o.length oc,O U x.got,O U x.sold,O U x.missed]) (by simp [results,Tryz.results173,go_sem, *]) rfl ?_
 rw [HI.out]
 exact dr.of (List.length_set ..) rfl rfl R8.out R9.out bz
theorem qJ {l:List aq} {kd:Int} {k:Nat} (h:k < l.length):cw (l.drop k) kd=if l[k].k < kd then cw (l.drop (k+1)) kd+1 else 0:=by
 rw [List.drop_eq_getElem_cons h,iX]
theorem mz {ts:List aq} {kd n:Int} (h : ¬ 0≤av ts kd):ah ts kd n=(ts.take (cw ts kd)++[⟨kd,n⟩])++ts.drop (cw ts kd):=by
 unfold ah; rw [if_neg h,List.append_assoc]; rfl
theorem fu:(Tryz.prog.info? 104).map (·.size)=some 2:=by kernel_rfl
set_option maxRecDepth 100000 in
set_option maxHeartbeats 4000000 in
theorem qK (x:aM) (kd n:Int) (w:World) (h:aQ w w.heap.size x) (tl:x.t.length≤1000000) (ol:x.o.length≤1000000) (hbd:∀ i (hi:i < x.t.length), -1000000000≤x.t[i].c∧x.t[i].c≤1000000000) (hn : -1000000000≤n∧n≤1000000000) (hx : ¬ 0≤av x.t kd) (hcap:x.t.length≤x.tc) :
  Calls Tryz.prog 173 #[x.val,O U kd,O U n] w (dr w ⟨ah x.t kd n,x.o,x.got,x.sold,x.missed⟩):=by
 obtain ⟨n1,n2⟩:=hn
 clear hbd
 have HIN:=Lib.hid (mz (n:=n) hx)
 have L1:=(ai.new w 40 #[F x.TA x.t.length x.tc,F x.OA x.o.length x.oc,O U x.got,O U x.sold,O U x.missed]).alloc (.cells #[F none 0 0,F none 0 0,O U 0,O U 0,O U 0] 40)
 have L2:=ai.new1 w (.cells #[F x.TA x.t.length x.tc,F x.OA x.o.length x.oc,O U x.got,O U x.sold,O U x.missed] 40) 40 #[F none 0 0,F none 0 0,O U 0,O U 0,O U 0]
 have b1:=(Below.refl w.heap.size w).alloc (Nat.le_refl _) (.cells #[F x.TA x.t.length x.tc,F x.OA x.o.length x.oc,O U x.got,O U x.sold,O U x.missed] 40)
 have b2:=b1.alloc b1.size (.cells #[F none 0 0,F none 0 0,O U 0,O U 0,O U 0] 40)
 clear b1
 go_enter Tryz.func173,Tryz.ntmps173
 go_wp2_with fail
 generalize ((w.alloc (.cells #[F x.TA x.t.length x.tc,F x.OA x.o.length x.oc,O U x.got,O U x.sold,O U x.missed] 40)).alloc (.cells #[F none 0 0,F none 0 0,O U 0,O U 0,O U 0] 40))=W at L1 L2 b2 ⊢
 have hR:=h.up b2 (Nat.le_refl _)
 refine (io x W hR tl ol).mono ?_
 rintro e W2 ⟨TA,tc,OA,oc,he,hT,hO,hb2⟩
 have he:e=.returned (.agg #[F TA x.t.length tc,F OA x.o.length oc,O U x.got,O U x.sold,O U x.missed]):=he
 subst he
 simp only [aM.c] at hT hO
 have L1a:=(L1.below hb2 L1.lt).alloc (.cells #[F TA x.t.length tc,F OA x.o.length oc,O U x.got,O U x.sold,O U x.missed] 40)
 have L2a:=(L2.below hb2 L2.lt).alloc (.cells #[F TA x.t.length tc,F OA x.o.length oc,O U x.got,O U x.sold,O U x.missed] 40)
 have P1:=ai.new W2 40 #[F TA x.t.length tc,F OA x.o.length oc,O U x.got,O U x.sold,O U x.missed]
 have hal:=(Below.refl W2.heap.size W2).alloc (Nat.le_refl _) (.cells #[F TA x.t.length tc,F OA x.o.length oc,O U x.got,O U x.sold,O U x.missed] 40)
 have hT3:=af (ab hT hal) b2.size
 have hO3:=af (ab hO hal) b2.size
 have b3:=b2.trans ((ar hb2 hal).mono b2.size)
 have hR3:=(hR.then hb2).then hal
 have hg7:w.heap.size≤W2.heap.size:=Nat.le_trans b2.size hb2.size
 have hg8:w.heap.size+1 < W2.heap.size:=Nat.lt_of_lt_of_le L2.lt hb2.size
 obtain ⟨c0,c1,c2,c3,c4⟩:=cells5 L1a
 clear L1 L2 b2 hb2 hT hO hal hR h
 obtain ⟨W3,hW3⟩ : ∃ W3,W2.alloc (.cells #[F TA x.t.length tc,F OA x.o.length oc,O U x.got,O U x.sold,O U x.missed] 40)=W3:=⟨_,rfl⟩
 rw [hW3] at L1a L2a P1 hT3 hO3 b3 hR3 c0 c1 c2 c3 c4
 go_wp2_with (rw [hW3])
 clear hW3
 refine (bx x kd W3 hR3).mono ?_
 rintro e W4 ⟨rfl,hb4⟩
 have L1b:=L1a.below hb4 L1a.lt
 have L2b:=L2a.below hb4 L2a.lt
 have P1b:=P1.below hb4 P1.lt
 have hO4:=ab hO3 hb4
 have b4:=b3.trans (hb4.mono b3.size)
 have hR4:=hR3.then hb4
 have hng:decide (av x.t kd ≥ 0)=false:=decide_eq_false (by omega)
 have hix:av x.t kd < 0:=by omega
 clear L1a L2a P1 hT3 hO3 b3 hR3 hb4 c0 c1 c2 c3 c4 hx
 have c0:=L1b.cell 0
 simp only [List.getElem?_cons_zero] at c0
 have hl:=hR4.ts.big
 go_wp2
 go_loopw [9] (fun v wr=>∃ k:Nat,k≤x.t.length∧v=O U (k:Int)∧wr=W4∧Hid (k+cw (x.t.drop k) kd=cw x.t kd)) (fun v _=>x.t.length - (intOf v).toNat)
 case atStart=>exact ⟨0,Nat.zero_le _,rfl,rfl,by unfold Hid; simp⟩
 case round =>
  obtain ⟨k,hk,rfl,hwr,HP⟩:=hrel
  subst wr
  have hk9:k≤9223372036854775807:=Nat.le_trans hk hl
  by_cases hlt:k < x.t.length
  ·obtain ⟨bA,off,hA,hbA,hcell⟩:=eX.el hR4.ts (by omega)
   obtain ⟨e0,_⟩:=hcell k hlt
   have e0:W4.cell? ⟨bA,off+k * 2,none⟩=some (O U x.t[k].k):=e0 (ao.start _ _)
   have HS:=Lib.hid (qJ (kd:=kd) hlt)
   obtain ⟨tk,htk⟩ : ∃ tk,tk=x.t[k].k:=⟨_,rfl⟩
   rw [← htk] at e0 HS
   clear htk hcell
   have hklt:(k:Int) < (x.t.length:Int):=by omega
   by_cases hm:tk < kd
   ·have HN:Hid (k+1+cw (x.t.drop (k+1)) kd=cw x.t kd):=by unfold Hid; rw [← HP.out,HS.out,if_pos hm]; omega
    simp only [hA] at c0
    have hA':=Lib.hid hA
    clear hA
    go_wp2
    go_roundw
    case rel=>exact ⟨k+1,by omega,by go_num,trivial,HN⟩
    case measure=>simp [intOf]; omega
   ·have HK:Hid (cw x.t kd=k):=by unfold Hid; rw [← HP.out,HS.out,if_neg hm]; rfl
    clear HP HS
    have hA':=Lib.hid hA
    have c0':=Lib.hid c0
    simp only [hA] at c0
    clear hA
    go_wp2
    clear c0
    have c0:=c0'.out
    clear c0' hm e0
    refine an (Sw 17 (fun W9=>Below W4.heap.size W4 W9) (fun W9=>∃ W8 A c,Below W4.heap.size W4 W8∧W8.ownsRow W4.heap.size 104 2 (F A (k+1+(x.t.length - k)) c) (k+1+(x.t.length - k)) (((x.t.flatMap aq.enc).take (k * 2)++[O U kd,O U n])++(x.t.flatMap aq.enc).drop (k * 2))∧W9=W8.setCell ⟨W2.heap.size,0,none⟩ (F A (k+1+(x.t.length - k)) c))) (fun i w1 w2=>i ∉ [10,15,17]→Below w1.heap.size w1 w2) (by kernel_rfl) (by kernel_rfl) (by kernel_rfl) (Sw.start (Below.refl _ _).drew) ?_
    simp only [ax,Act.put,List.setIfInBounds_toArray,List.set_cons_zero,List.set_cons_succ,Nat.zero_add,Nat.reduceAdd]
    refine ak [10,15,17] (fun v w9=>∃ g,v=F (some ⟨g,0,none⟩) 0 0∧W4.heap.size≤g∧ai w9 g 104 []) ?sb0 (fun vs L9 w9 hG9 hC9 hB K9 hK9=>?hb0) ?rb0
    case sb0 =>
     intro i9 hi9 hb9 ha9 v w1 w2 hv hT9
     have hb:=hT9 (fun hm=>by
      simp only [List.mem_cons,List.not_mem_nil,or_false] at hm hb9
      rcases hm with rfl | rfl | rfl
      ·exact hb9 (by simp)
      ·exact hb9 (by simp)
      ·exact hb9 (by simp))
     obtain ⟨g,e,hg,hl⟩:=hv
     exact ⟨g,e,hg,hl.below hb hl.lt⟩
    case hb0 =>
     replace hC9:=sb hC9 hG9
     simp only [Act.put,sA,s0,s1] at hK9
     go_simp
     exact hK9 _ _ _ rfl ⟨_,rfl,hC9.size,ai.new w9 104 #[]⟩ (Sw.stay hG9 (by kernel_rfl) (by decide) (hC9.alloc hC9.size _)) (fun _=>(Below.refl _ _).alloc (Nat.le_refl _) _)
    apply aa
    case h1 =>
     intro vs L9 w9 hG9 hC9 hB K9 hK9
     replace hC9:=sb hC9 hG9
     simp only [Act.put,sA,s0,s1] at hK9
     go_simp
     exact hK9 _ _ rfl (sy hG9 hC9) bR
    apply aa
    case h1 =>
     intro vs L9 w9 hG9 hC9 hB K9 hK9
     replace hC9:=sb hC9 hG9
     have d1:=fe hB 1
     simp only [d1] at hK9 ⊢
     have q0:w9.cell? ⟨w.heap.size,0,none⟩=some (F x.TA x.t.length x.tc):=(L1b.below hC9 L1b.lt).cell 0
     simp only [Act.put,sA,s0,s1] at hK9
     go_simp
     exact hK9 _ _ rfl (sy hG9 hC9) bR
    apply aa
    case h1 =>
     intro vs L9 w9 hG9 hC9 hB K9 hK9
     replace hC9:=sb hC9 hG9
     simp only [Act.put,sA,s0,s1] at hK9
     go_simp
     exact hK9 _ _ rfl (sy hG9 hC9) bR
    apply aa
    case h1 =>
     intro vs L9 w9 hG9 hC9 hB K9 hK9
     replace hC9:=sb hC9 hG9
     have d2:=fe hB 2
     have d3:=fe hB 3
     simp only [d2,d3] at hK9 ⊢
     simp only [Act.put,sA,s0,s1] at hK9
     refine jP rfl 37 104 (.tmp 50) (.tmp 51) rfl Tryz.underlying37 2 fu x.TA x.t.length x.tc k (by rfl) (by rfl) hk hcap ?_
     exact hK9 _ _ rfl (sy hG9 hC9) bR
    refine ak [10,15,17] (fun v w9=>∃ A c,v=F A (k) c∧w9.ownsRow W4.heap.size 104 2 (F A (k) c) (k) ((x.t.flatMap aq.enc).take (k * 2))) ?sb5 (fun vs L9 w9 hG9 hC9 hB K9 hK9=>?hb5) ?rb5
    case sb5 =>
     intro i9 hi9 hb9 ha9 v w1 w2 hv hT9
     have hb:=hT9 (fun hm=>by
      simp only [List.mem_cons,List.not_mem_nil,or_false] at hm hb9
      rcases hm with rfl | rfl | rfl
      ·exact hb9 (by simp)
      ·exact hb9 (by simp)
      ·exact hb9 (by simp))
     obtain ⟨A,c,e,ho⟩:=hv
     exact ⟨A,c,e,ab ho hb⟩
    case hb5 =>
     replace hC9:=sb hC9 hG9
     have d4:=fe hB 4
     simp only [d4] at hK9 ⊢
     simp only [Act.put,sA,s0,s1] at hK9
     obtain ⟨g,e0,hg,hl⟩:=fs hB 0
     simp only [e0] at hK9 ⊢
     refine jN rfl (.tmp 48) (.tmp 52) 37 rfl 104 _ 2 16 Tryz.underlying37 dj rfl (by omega) (by omega) W4.heap.size g (by rfl) hl hg W4.heap.size x.TA k x.tc _ (by rfl) (br.take (br.below hR4.ts hC9) k hk) (fun u hu=>dF u (List.mem_of_mem_take hu)) (by omega) ?_
     intro v' w' ho hb
     obtain ⟨A',c',rfl⟩:=aw ho
     exact hK9 _ _ _ rfl ⟨A',c',rfl,ho⟩ (Sw.stay hG9 (by kernel_rfl) (by decide) (hC9.trans (hb.mono hC9.size))) (fun _=>hb)
    apply aa
    case h1 =>
     intro vs L9 w9 hG9 hC9 hB K9 hK9
     replace hC9:=sb hC9 hG9
     simp only [Act.put,sA,s0,s1] at hK9
     go_simp
     exact hK9 _ _ rfl (sy hG9 hC9) bR
    apply aa
    case h1 =>
     intro vs L9 w9 hG9 hC9 hB K9 hK9
     replace hC9:=sb hC9 hG9
     simp only [Act.put,sA,s0,s1] at hK9
     go_simp
     exact hK9 _ _ rfl (sy hG9 hC9) bR
    apply aa
    case h1 =>
     intro vs L9 w9 hG9 hC9 hB K9 hK9
     replace hC9:=sb hC9 hG9
     have d6:=fe hB 6
     have d7:=fe hB 7
     simp only [d6,d7] at hK9 ⊢
     simp only [Act.put,sA,s0,s1] at hK9
     go_simp
     exact hK9 _ _ rfl (sy hG9 hC9) bR
    refine ak [10,15,17] (fun v w9=>∃ g c,v=F (some ⟨g,0,none⟩) 1 c∧ai w9 g 104 [O U kd,O U n]) ?sb9 (fun vs L9 w9 hG9 hC9 hB K9 hK9=>?hb9) ?rb9
    case sb9 =>
     intro i9 hi9 hb9 ha9 v w1 w2 hv hT9
     have hb:=hT9 (fun hm=>by
      simp only [List.mem_cons,List.not_mem_nil,or_false] at hm hb9
      rcases hm with rfl | rfl | rfl
      ·exact hb9 (by simp)
      ·exact hb9 (by simp)
      ·exact hb9 (by simp))
     obtain ⟨g,c,e,hl⟩:=hv
     exact ⟨g,c,e,hl.below hb hl.lt⟩
    case hb9 =>
     replace hC9:=sb hC9 hG9
     have d8:=fe hB 8
     simp only [d8] at hK9 ⊢
     simp only [Act.put,sA,s0,s1] at hK9
     go_simp
     exact hK9 _ _ _ rfl ⟨_,_,rfl,ai.new w9 104 #[O U kd,O U n]⟩ (Sw.stay hG9 (by kernel_rfl) (by decide) (hC9.alloc hC9.size _)) (fun _=>(Below.refl _ _).alloc (Nat.le_refl _) _)
    refine ak [15,17] (fun v w9=>∃ A c,v=F A (k+1) c∧w9.ownsRow W4.heap.size 104 2 (F A (k+1) c) (k+1) ((x.t.flatMap aq.enc).take (k * 2)++[O U kd,O U n])) ?sb10 (fun vs L9 w9 hG9 hC9 hB K9 hK9=>?hb10) ?rb10
    case sb10 =>
     intro i9 hi9 hb9 ha9 v w1 w2 hv hT9
     have hb:=hT9 (fun hm=>by
      simp only [List.mem_cons,List.not_mem_nil,or_false] at hm hb9
      rcases hm with rfl | rfl | rfl
      ·exact hi9 rfl
      ·exact hb9 (by simp)
      ·exact hb9 (by simp))
     obtain ⟨A,c,e,ho⟩:=hv
     exact ⟨A,c,e,ab ho hb⟩
    case hb10 =>
     replace hC9:=sb hC9 hG9
     simp only [Act.put,sA,s0,s1] at hK9
     obtain ⟨A,c,e5,ho⟩:=fs hB 5
     obtain ⟨g,c9,e9,hl⟩:=fs hB 9
     simp only [e5,e9] at hK9 ⊢
     refine jQ rfl (.tmp 53) (.tmp 57) 37 rfl 104 _ 2 16 Tryz.underlying37 dj rfl (by omega) (by omega) W4.heap.size _ k _ (by rfl) ho w9.heap.size (some ⟨g,0,none⟩) 1 c9 [O U kd,O U n] (by rfl) (hl.reads rfl (by omega)) (by simp [Value.oneCell']) (by omega) hC9.size ?_
     intro A' c' w' ho' _ hb
     exact hK9 _ _ _ rfl ⟨A',c',rfl,ho'⟩ (Sw.stay hG9 (by kernel_rfl) (by decide) (hC9.trans hb)) (fun hq=>(hq (by decide)).elim)
    apply aa
    case h1 =>
     intro vs L9 w9 hG9 hC9 hB K9 hK9
     replace hC9:=sb hC9 hG9
     simp only [Act.put,sA,s0,s1] at hK9
     go_simp
     exact hK9 _ _ rfl (sy hG9 hC9) bR
    apply aa
    case h1 =>
     intro vs L9 w9 hG9 hC9 hB K9 hK9
     replace hC9:=sb hC9 hG9
     have d11:=fe hB 11
     simp only [d11] at hK9 ⊢
     have q0:w9.cell? ⟨w.heap.size,0,none⟩=some (F x.TA x.t.length x.tc):=(L1b.below hC9 L1b.lt).cell 0
     simp only [Act.put,sA,s0,s1] at hK9
     go_simp
     exact hK9 _ _ rfl (sy hG9 hC9) bR
    apply aa
    case h1 =>
     intro vs L9 w9 hG9 hC9 hB K9 hK9
     replace hC9:=sb hC9 hG9
     simp only [Act.put,sA,s0,s1] at hK9
     go_simp
     exact hK9 _ _ rfl (sy hG9 hC9) bR
    refine ak [] (fun v w9=>∃ A,v=F A (x.t.length - k) (x.tc - k)∧∀ W9,Below W4.heap.size W4 W9→br W9 W4.heap.size 2 A (x.t.length - k) ((x.t.flatMap aq.enc).drop (k * 2))) ?sb14 (fun vs L9 w9 hG9 hC9 hB K9 hK9=>?hb14) ?rb14
    case sb14 =>
     intro i9 hi9 hb9 ha9 v w1 w2 hv hT9
     exact hv
    case hb14 =>
     replace hC9:=sb hC9 hG9
     have d12:=fe hB 12
     have d13:=fe hB 13
     simp only [d12,d13] at hK9 ⊢
     simp only [Act.put,sA,s0,s1] at hK9
     refine iK rfl 37 104 (.tmp 60) (.tmp 61) rfl Tryz.underlying37 2 fu x.TA x.t.length x.tc k (by rfl) (by rfl) hk hcap ?_
     intro A' hA9
     exact hK9 _ _ _ rfl ⟨A',rfl,fun W9 hW=>hA9 _ _ _ (br.below hR4.ts hW)⟩ (sy hG9 hC9) bR
    refine ak [17] (fun v w9=>∃ A c,v=F A (k+1+(x.t.length - k)) c∧w9.ownsRow W4.heap.size 104 2 (F A (k+1+(x.t.length - k)) c) (k+1+(x.t.length - k)) (((x.t.flatMap aq.enc).take (k * 2)++[O U kd,O U n])++(x.t.flatMap aq.enc).drop (k * 2))) ?sb15 (fun vs L9 w9 hG9 hC9 hB K9 hK9=>?hb15) ?rb15
    case sb15 =>
     intro i9 hi9 hb9 ha9 v w1 w2 hv hT9
     have hb:=hT9 (fun hm=>by
      simp only [List.mem_cons,List.not_mem_nil,or_false] at hm hb9
      rcases hm with rfl | rfl | rfl
      ·exact absurd (ha9.symm.trans (show bG .any _ _ _ _=true by kernel_rfl)) (by decide)
      ·exact hi9 rfl
      ·exact hb9 (by simp))
     obtain ⟨A,c,e,ho⟩:=hv
     exact ⟨A,c,e,ab ho hb⟩
    case hb15 =>
     replace hC9:=sb hC9 hG9
     simp only [Act.put,sA,s0,s1] at hK9
     obtain ⟨A,c,e10,ho⟩:=fs hB 10
     obtain ⟨A14,e14,hr⟩:=fs hB 14
     simp only [e10,e14] at hK9 ⊢
     refine jQ rfl (.tmp 58) (.tmp 62) 37 rfl 104 _ 2 16 Tryz.underlying37 dj rfl (by omega) (by omega) W4.heap.size _ (k+1) _ (by rfl) ho W4.heap.size A14 (x.t.length - k) (x.tc - k) _ (by rfl) (hr w9 hC9) (fun u hu=>dF u (List.mem_of_mem_drop hu)) (by omega) hC9.size ?_
     intro A' c' w' ho' _ hb
     exact hK9 _ _ _ rfl ⟨A',c',rfl,ho'⟩ (Sw.stay hG9 (by kernel_rfl) (by decide) (hC9.trans hb)) (fun hq=>(hq (by decide)).elim)
    apply aa
    case h1 =>
     intro vs L9 w9 hG9 hC9 hB K9 hK9
     replace hC9:=sb hC9 hG9
     simp only [Act.put,sA,s0,s1] at hK9
     go_simp
     exact hK9 _ _ rfl (sy hG9 hC9) bR
    refine aa (undef) (fun vs L9 w9 hG9 hC9 hB K9 hK9=>?hb17) ?rb17
    case hb17 =>
     replace hC9:=hC9.here hG9
     have d16:=fe hB 16
     simp only [d16] at hK9 ⊢
     obtain ⟨A,c,e15,ho⟩:=fs hB 15
     simp only [e15] at hK9 ⊢
     have P9:=P1b.below hC9 P1b.lt
     have q0:=P9.cell 0
     have f0:=P9.frozen 0
     simp only [List.getElem?_cons_zero] at q0
     have ho:=Lib.hid ho
     go_simp
     exact hK9 _ _ rfl (Sw.turn ⟨w9,A,c,hC9,ho.out,rfl⟩) (fun hq=>(hq (by decide)).elim)
    refine az fun vs L9 w9 hL9 hC9 hB=>?_
    replace hC9:=hC9.done hL9 (by decide)
    obtain ⟨W8,A,c,hb8,ho8,rfl⟩:=hC9
    clear hB hL9
    have P8:=P1b.below hb8 P1b.lt
    have hoT:=al ho8 P8 cq 0 (F A (k+1+(x.t.length - k)) c)
    have hoO:=al (ab hO4 hb8) P8 cF 0 (F A (k+1+(x.t.length - k)) c)
    have P9:=P8.set 0 (F A (k+1+(x.t.length - k)) c)
    have L2c:=(L2b.below hb8 L2b.lt).other (p:=⟨W2.heap.size,0,none⟩) (by simp; omega) (F A (k+1+(x.t.length - k)) c)
    have b9:=(b4.trans (hb8.mono b4.size)).setCell (p:=⟨W2.heap.size,0,none⟩) hg7 (F A (k+1+(x.t.length - k)) c)
    have hoT:=af hoT b4.size
    generalize W8.setCell ⟨W2.heap.size,0,none⟩ (F A (k+1+(x.t.length - k)) c)=W9 at hoT hoO P9 L2c b9 ⊢
    have HT:=Lib.hid (aW (v0:=F A (k+1+(x.t.length - k)) c) (v1:=F OA x.o.length oc) (v2:=O U x.got) (v3:=O U x.sold) (v4:=O U x.missed) L2c hoT cq)
    have HO:=Lib.hid (aW (v0:=F A (k+1+(x.t.length - k)) c) (v1:=F OA x.o.length oc) (v2:=O U x.got) (v3:=O U x.sold) (v4:=O U x.missed) L2c hoO cF)
    have bz:=b9.trans (bK (v0:=F A (k+1+(x.t.length - k)) c) (v1:=F OA x.o.length oc) (v2:=O U x.got) (v3:=O U x.sold) (v4:=O U x.missed) L2c (Nat.le_succ _))
    simp only [List.set_cons_zero] at P9
    obtain ⟨k0,k1,k2,k3,k4⟩:=cells5 P9
    obtain ⟨z0,z1,z2,z3,z4⟩:=cells5 L2c
    obtain ⟨f0,f1,f2,f3,f4⟩:=frz5 L2c
    clear hoT hoO P9 P8 L2c ho8 c0
    go_wp2
    refine bodyPost_ret (v:=.agg #[F A (k+1+(x.t.length - k)) c,F OA x.o.length oc,O U x.got,O U x.sold,O U x.missed]) (by simp [results,Tryz.results173,go_sem, *]) rfl ?_
    rw [HIN.out,HK.out]
    have hlen:((x.t.take k++[(⟨kd,n⟩ : aq)])++x.t.drop k).length=k+1+(x.t.length - k):=by
     rw [List.length_append,List.length_append,List.length_take,List.length_drop,List.length_singleton,Nat.min_eq_left hk]
    have hcs:(((x.t.take k++[(⟨kd,n⟩ : aq)])++x.t.drop k).flatMap aq.enc)=(((x.t.flatMap aq.enc).take (k * 2)++[O U kd,O U n])++(x.t.flatMap aq.enc).drop (k * 2)):=by
     rw [List.flatMap_append,List.flatMap_append,gQ aq.enc 2 aq.enc_len,gR aq.enc 2 aq.enc_len]
     rfl
    exact dr.of hlen rfl rfl (by rw [hlen,hcs]; exact HT.out) HO.out bz
  ·have hke:k=x.t.length:=by omega
   have HK:Hid (cw x.t kd=k):=by unfold Hid; rw [← HP.out,List.drop_eq_nil_of_le (by omega)]; rfl
   clear HP
   have hkl : ¬ (k:Int) < (x.t.length:Int):=by omega
   have Hke:=Lib.hid hke; clear hke
   go_wp2
   refine an (Sw 17 (fun W9=>Below W4.heap.size W4 W9) (fun W9=>∃ W8 A c,Below W4.heap.size W4 W8∧W8.ownsRow W4.heap.size 104 2 (F A (k+1+(x.t.length - k)) c) (k+1+(x.t.length - k)) (((x.t.flatMap aq.enc).take (k * 2)++[O U kd,O U n])++(x.t.flatMap aq.enc).drop (k * 2))∧W9=W8.setCell ⟨W2.heap.size,0,none⟩ (F A (k+1+(x.t.length - k)) c))) (fun i w1 w2=>i ∉ [10,15,17]→Below w1.heap.size w1 w2) (by kernel_rfl) (by kernel_rfl) (by kernel_rfl) (Sw.start (Below.refl _ _).drew) ?_
   simp only [ax,Act.put,List.setIfInBounds_toArray,List.set_cons_zero,List.set_cons_succ,Nat.zero_add,Nat.reduceAdd]
   refine ak [10,15,17] (fun v w9=>∃ g,v=F (some ⟨g,0,none⟩) 0 0∧W4.heap.size≤g∧ai w9 g 104 []) ?sc0 (fun vs L9 w9 hG9 hC9 hB K9 hK9=>?hc0) ?rc0
   case sc0 =>
    intro i9 hi9 hb9 ha9 v w1 w2 hv hT9
    have hb:=hT9 (fun hm=>by
     simp only [List.mem_cons,List.not_mem_nil,or_false] at hm hb9
     rcases hm with rfl | rfl | rfl
     ·exact hb9 (by simp)
     ·exact hb9 (by simp)
     ·exact hb9 (by simp))
    obtain ⟨g,e,hg,hl⟩:=hv
    exact ⟨g,e,hg,hl.below hb hl.lt⟩
   case hc0 =>
    replace hC9:=sb hC9 hG9
    simp only [Act.put,sA,s0,s1] at hK9
    go_simp
    exact hK9 _ _ _ rfl ⟨_,rfl,hC9.size,ai.new w9 104 #[]⟩ (Sw.stay hG9 (by kernel_rfl) (by decide) (hC9.alloc hC9.size _)) (fun _=>(Below.refl _ _).alloc (Nat.le_refl _) _)
   apply aa
   case h1 =>
    intro vs L9 w9 hG9 hC9 hB K9 hK9
    replace hC9:=sb hC9 hG9
    simp only [Act.put,sA,s0,s1] at hK9
    go_simp
    exact hK9 _ _ rfl (sy hG9 hC9) bR
   apply aa
   case h1 =>
    intro vs L9 w9 hG9 hC9 hB K9 hK9
    replace hC9:=sb hC9 hG9
    have d1:=fe hB 1
    simp only [d1] at hK9 ⊢
    have q0:w9.cell? ⟨w.heap.size,0,none⟩=some (F x.TA x.t.length x.tc):=(L1b.below hC9 L1b.lt).cell 0
    simp only [Act.put,sA,s0,s1] at hK9
    go_simp
    exact hK9 _ _ rfl (sy hG9 hC9) bR
   apply aa
   case h1 =>
    intro vs L9 w9 hG9 hC9 hB K9 hK9
    replace hC9:=sb hC9 hG9
    simp only [Act.put,sA,s0,s1] at hK9
    go_simp
    exact hK9 _ _ rfl (sy hG9 hC9) bR
   apply aa
   case h1 =>
    intro vs L9 w9 hG9 hC9 hB K9 hK9
    replace hC9:=sb hC9 hG9
    have d2:=fe hB 2
    have d3:=fe hB 3
    simp only [d2,d3] at hK9 ⊢
    simp only [Act.put,sA,s0,s1] at hK9
    refine jP rfl 37 104 (.tmp 50) (.tmp 51) rfl Tryz.underlying37 2 fu x.TA x.t.length x.tc k (by rfl) (by rfl) hk hcap ?_
    exact hK9 _ _ rfl (sy hG9 hC9) bR
   refine ak [10,15,17] (fun v w9=>∃ A c,v=F A (k) c∧w9.ownsRow W4.heap.size 104 2 (F A (k) c) (k) ((x.t.flatMap aq.enc).take (k * 2))) ?sc5 (fun vs L9 w9 hG9 hC9 hB K9 hK9=>?hc5) ?rc5
   case sc5 =>
    intro i9 hi9 hb9 ha9 v w1 w2 hv hT9
    have hb:=hT9 (fun hm=>by
     simp only [List.mem_cons,List.not_mem_nil,or_false] at hm hb9
     rcases hm with rfl | rfl | rfl
     ·exact hb9 (by simp)
     ·exact hb9 (by simp)
     ·exact hb9 (by simp))
    obtain ⟨A,c,e,ho⟩:=hv
    exact ⟨A,c,e,ab ho hb⟩
   case hc5 =>
    replace hC9:=sb hC9 hG9
    have d4:=fe hB 4
    simp only [d4] at hK9 ⊢
    simp only [Act.put,sA,s0,s1] at hK9
    obtain ⟨g,e0,hg,hl⟩:=fs hB 0
    simp only [e0] at hK9 ⊢
    refine jN rfl (.tmp 48) (.tmp 52) 37 rfl 104 _ 2 16 Tryz.underlying37 dj rfl (by omega) (by omega) W4.heap.size g (by rfl) hl hg W4.heap.size x.TA k x.tc _ (by rfl) (br.take (br.below hR4.ts hC9) k hk) (fun u hu=>dF u (List.mem_of_mem_take hu)) (by omega) ?_
    intro v' w' ho hb
    obtain ⟨A',c',rfl⟩:=aw ho
    exact hK9 _ _ _ rfl ⟨A',c',rfl,ho⟩ (Sw.stay hG9 (by kernel_rfl) (by decide) (hC9.trans (hb.mono hC9.size))) (fun _=>hb)
   apply aa
   case h1 =>
    intro vs L9 w9 hG9 hC9 hB K9 hK9
    replace hC9:=sb hC9 hG9
    simp only [Act.put,sA,s0,s1] at hK9
    go_simp
    exact hK9 _ _ rfl (sy hG9 hC9) bR
   apply aa
   case h1 =>
    intro vs L9 w9 hG9 hC9 hB K9 hK9
    replace hC9:=sb hC9 hG9
    simp only [Act.put,sA,s0,s1] at hK9
    go_simp
    exact hK9 _ _ rfl (sy hG9 hC9) bR
   apply aa
   case h1 =>
    intro vs L9 w9 hG9 hC9 hB K9 hK9
    replace hC9:=sb hC9 hG9
    have d6:=fe hB 6
    have d7:=fe hB 7
    simp only [d6,d7] at hK9 ⊢
    simp only [Act.put,sA,s0,s1] at hK9
    go_simp
    exact hK9 _ _ rfl (sy hG9 hC9) bR
   refine ak [10,15,17] (fun v w9=>∃ g c,v=F (some ⟨g,0,none⟩) 1 c∧ai w9 g 104 [O U kd,O U n]) ?sc9 (fun vs L9 w9 hG9 hC9 hB K9 hK9=>?hc9) ?rc9
   case sc9 =>
    intro i9 hi9 hb9 ha9 v w1 w2 hv hT9
    have hb:=hT9 (fun hm=>by
     simp only [List.mem_cons,List.not_mem_nil,or_false] at hm hb9
     rcases hm with rfl | rfl | rfl
     ·exact hb9 (by simp)
     ·exact hb9 (by simp)
     ·exact hb9 (by simp))
    obtain ⟨g,c,e,hl⟩:=hv
    exact ⟨g,c,e,hl.below hb hl.lt⟩
   case hc9 =>
    replace hC9:=sb hC9 hG9
    have d8:=fe hB 8
    simp only [d8] at hK9 ⊢
    simp only [Act.put,sA,s0,s1] at hK9
    go_simp
    exact hK9 _ _ _ rfl ⟨_,_,rfl,ai.new w9 104 #[O U kd,O U n]⟩ (Sw.stay hG9 (by kernel_rfl) (by decide) (hC9.alloc hC9.size _)) (fun _=>(Below.refl _ _).alloc (Nat.le_refl _) _)
   refine ak [15,17] (fun v w9=>∃ A c,v=F A (k+1) c∧w9.ownsRow W4.heap.size 104 2 (F A (k+1) c) (k+1) ((x.t.flatMap aq.enc).take (k * 2)++[O U kd,O U n])) ?sc10 (fun vs L9 w9 hG9 hC9 hB K9 hK9=>?hc10) ?rc10
   case sc10 =>
    intro i9 hi9 hb9 ha9 v w1 w2 hv hT9
    have hb:=hT9 (fun hm=>by
     simp only [List.mem_cons,List.not_mem_nil,or_false] at hm hb9
     rcases hm with rfl | rfl | rfl
     ·exact hi9 rfl
     ·exact hb9 (by simp)
     ·exact hb9 (by simp))
    obtain ⟨A,c,e,ho⟩:=hv
    exact ⟨A,c,e,ab ho hb⟩
   case hc10 =>
    replace hC9:=sb hC9 hG9
    simp only [Act.put,sA,s0,s1] at hK9
    obtain ⟨A,c,e5,ho⟩:=fs hB 5
    obtain ⟨g,c9,e9,hl⟩:=fs hB 9
    simp only [e5,e9] at hK9 ⊢
    refine jQ rfl (.tmp 53) (.tmp 57) 37 rfl 104 _ 2 16 Tryz.underlying37 dj rfl (by omega) (by omega) W4.heap.size _ k _ (by rfl) ho w9.heap.size (some ⟨g,0,none⟩) 1 c9 [O U kd,O U n] (by rfl) (hl.reads rfl (by omega)) (by simp [Value.oneCell']) (by omega) hC9.size ?_
    intro A' c' w' ho' _ hb
    exact hK9 _ _ _ rfl ⟨A',c',rfl,ho'⟩ (Sw.stay hG9 (by kernel_rfl) (by decide) (hC9.trans hb)) (fun hq=>(hq (by decide)).elim)
   apply aa
   case h1 =>
    intro vs L9 w9 hG9 hC9 hB K9 hK9
    replace hC9:=sb hC9 hG9
    simp only [Act.put,sA,s0,s1] at hK9
    go_simp
    exact hK9 _ _ rfl (sy hG9 hC9) bR
   apply aa
   case h1 =>
    intro vs L9 w9 hG9 hC9 hB K9 hK9
    replace hC9:=sb hC9 hG9
    have d11:=fe hB 11
    simp only [d11] at hK9 ⊢
    have q0:w9.cell? ⟨w.heap.size,0,none⟩=some (F x.TA x.t.length x.tc):=(L1b.below hC9 L1b.lt).cell 0
    simp only [Act.put,sA,s0,s1] at hK9
    go_simp
    exact hK9 _ _ rfl (sy hG9 hC9) bR
   apply aa
   case h1 =>
    intro vs L9 w9 hG9 hC9 hB K9 hK9
    replace hC9:=sb hC9 hG9
    simp only [Act.put,sA,s0,s1] at hK9
    go_simp
    exact hK9 _ _ rfl (sy hG9 hC9) bR
   refine ak [] (fun v w9=>∃ A,v=F A (x.t.length - k) (x.tc - k)∧∀ W9,Below W4.heap.size W4 W9→br W9 W4.heap.size 2 A (x.t.length - k) ((x.t.flatMap aq.enc).drop (k * 2))) ?sc14 (fun vs L9 w9 hG9 hC9 hB K9 hK9=>?hc14) ?rc14
   case sc14 =>
    intro i9 hi9 hb9 ha9 v w1 w2 hv hT9
    exact hv
   case hc14 =>
    replace hC9:=sb hC9 hG9
    have d12:=fe hB 12
    have d13:=fe hB 13
    simp only [d12,d13] at hK9 ⊢
    simp only [Act.put,sA,s0,s1] at hK9
    refine iK rfl 37 104 (.tmp 60) (.tmp 61) rfl Tryz.underlying37 2 fu x.TA x.t.length x.tc k (by rfl) (by rfl) hk hcap ?_
    intro A' hA9
    exact hK9 _ _ _ rfl ⟨A',rfl,fun W9 hW=>hA9 _ _ _ (br.below hR4.ts hW)⟩ (sy hG9 hC9) bR
   refine ak [17] (fun v w9=>∃ A c,v=F A (k+1+(x.t.length - k)) c∧w9.ownsRow W4.heap.size 104 2 (F A (k+1+(x.t.length - k)) c) (k+1+(x.t.length - k)) (((x.t.flatMap aq.enc).take (k * 2)++[O U kd,O U n])++(x.t.flatMap aq.enc).drop (k * 2))) ?sc15 (fun vs L9 w9 hG9 hC9 hB K9 hK9=>?hc15) ?rc15
   case sc15 =>
    intro i9 hi9 hb9 ha9 v w1 w2 hv hT9
    have hb:=hT9 (fun hm=>by
     simp only [List.mem_cons,List.not_mem_nil,or_false] at hm hb9
     rcases hm with rfl | rfl | rfl
     ·exact absurd (ha9.symm.trans (show bG .any _ _ _ _=true by kernel_rfl)) (by decide)
     ·exact hi9 rfl
     ·exact hb9 (by simp))
    obtain ⟨A,c,e,ho⟩:=hv
    exact ⟨A,c,e,ab ho hb⟩
   case hc15 =>
    replace hC9:=sb hC9 hG9
    simp only [Act.put,sA,s0,s1] at hK9
    obtain ⟨A,c,e10,ho⟩:=fs hB 10
    obtain ⟨A14,e14,hr⟩:=fs hB 14
    simp only [e10,e14] at hK9 ⊢
    refine jQ rfl (.tmp 58) (.tmp 62) 37 rfl 104 _ 2 16 Tryz.underlying37 dj rfl (by omega) (by omega) W4.heap.size _ (k+1) _ (by rfl) ho W4.heap.size A14 (x.t.length - k) (x.tc - k) _ (by rfl) (hr w9 hC9) (fun u hu=>dF u (List.mem_of_mem_drop hu)) (by omega) hC9.size ?_
    intro A' c' w' ho' _ hb
    exact hK9 _ _ _ rfl ⟨A',c',rfl,ho'⟩ (Sw.stay hG9 (by kernel_rfl) (by decide) (hC9.trans hb)) (fun hq=>(hq (by decide)).elim)
   apply aa
   case h1 =>
    intro vs L9 w9 hG9 hC9 hB K9 hK9
    replace hC9:=sb hC9 hG9
    simp only [Act.put,sA,s0,s1] at hK9
    go_simp
    exact hK9 _ _ rfl (sy hG9 hC9) bR
   refine aa (undef) (fun vs L9 w9 hG9 hC9 hB K9 hK9=>?hc17) ?rc17
   case hc17 =>
    replace hC9:=hC9.here hG9
    have d16:=fe hB 16
    simp only [d16] at hK9 ⊢
    obtain ⟨A,c,e15,ho⟩:=fs hB 15
    simp only [e15] at hK9 ⊢
    have P9:=P1b.below hC9 P1b.lt
    have q0:=P9.cell 0
    have f0:=P9.frozen 0
    simp only [List.getElem?_cons_zero] at q0
    have ho:=Lib.hid ho
    go_simp
    exact hK9 _ _ rfl (Sw.turn ⟨w9,A,c,hC9,ho.out,rfl⟩) (fun hq=>(hq (by decide)).elim)
   refine az fun vs L9 w9 hL9 hC9 hB=>?_
   replace hC9:=hC9.done hL9 (by decide)
   obtain ⟨W8,A,c,hb8,ho8,rfl⟩:=hC9
   clear hB hL9
   have P8:=P1b.below hb8 P1b.lt
   have hoT:=al ho8 P8 cq 0 (F A (k+1+(x.t.length - k)) c)
   have hoO:=al (ab hO4 hb8) P8 cF 0 (F A (k+1+(x.t.length - k)) c)
   have P9:=P8.set 0 (F A (k+1+(x.t.length - k)) c)
   have L2c:=(L2b.below hb8 L2b.lt).other (p:=⟨W2.heap.size,0,none⟩) (by simp; omega) (F A (k+1+(x.t.length - k)) c)
   have b9:=(b4.trans (hb8.mono b4.size)).setCell (p:=⟨W2.heap.size,0,none⟩) hg7 (F A (k+1+(x.t.length - k)) c)
   have hoT:=af hoT b4.size
   generalize W8.setCell ⟨W2.heap.size,0,none⟩ (F A (k+1+(x.t.length - k)) c)=W9 at hoT hoO P9 L2c b9 ⊢
   have HT:=Lib.hid (aW (v0:=F A (k+1+(x.t.length - k)) c) (v1:=F OA x.o.length oc) (v2:=O U x.got) (v3:=O U x.sold) (v4:=O U x.missed) L2c hoT cq)
   have HO:=Lib.hid (aW (v0:=F A (k+1+(x.t.length - k)) c) (v1:=F OA x.o.length oc) (v2:=O U x.got) (v3:=O U x.sold) (v4:=O U x.missed) L2c hoO cF)
   have bz:=b9.trans (bK (v0:=F A (k+1+(x.t.length - k)) c) (v1:=F OA x.o.length oc) (v2:=O U x.got) (v3:=O U x.sold) (v4:=O U x.missed) L2c (Nat.le_succ _))
   simp only [List.set_cons_zero] at P9
   obtain ⟨k0,k1,k2,k3,k4⟩:=cells5 P9
   obtain ⟨z0,z1,z2,z3,z4⟩:=cells5 L2c
   obtain ⟨f0,f1,f2,f3,f4⟩:=frz5 L2c
   clear hoT hoO P9 P8 L2c ho8 c0
   go_wp2
   refine bodyPost_ret (v:=.agg #[F A (k+1+(x.t.length - k)) c,F OA x.o.length oc,O U x.got,O U x.sold,O U x.missed]) (by simp [results,Tryz.results173,go_sem, *]) rfl ?_
   rw [HIN.out,HK.out]
   have hlen:((x.t.take k++[(⟨kd,n⟩ : aq)])++x.t.drop k).length=k+1+(x.t.length - k):=by
    rw [List.length_append,List.length_append,List.length_take,List.length_drop,List.length_singleton,Nat.min_eq_left hk]
   have hcs:(((x.t.take k++[(⟨kd,n⟩ : aq)])++x.t.drop k).flatMap aq.enc)=(((x.t.flatMap aq.enc).take (k * 2)++[O U kd,O U n])++(x.t.flatMap aq.enc).drop (k * 2)):=by
    rw [List.flatMap_append,List.flatMap_append,gQ aq.enc 2 aq.enc_len,gR aq.enc 2 aq.enc_len]
    rfl
   exact dr.of hlen rfl rfl (by rw [hlen,hcs]; exact HT.out) HO.out bz
end Go.Proofs.YtoeoimhemojdeaaGreatDoor
