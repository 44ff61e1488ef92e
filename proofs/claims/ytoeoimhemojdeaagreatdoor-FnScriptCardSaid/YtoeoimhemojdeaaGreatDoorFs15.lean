/- Lemmas. -/
import Derived.Deep.RegionLawGrows
import Derived.Test.YtoeoimhemojdeaaGreatDoorFs14

set_option linter.unusedVariables false
set_option linter.unusedSimpArgs false
set_option maxHeartbeats 8000000
open Go.Value renaming int → O, slice → F, string → wG
open Go.IntKind renaming i64 → U
open Go.Proofs.Tryz renaming prog → wH

namespace Go.Proofs.YtoeoimhemojdeaaGreatDoor
open Go.RowKit
theorem lF {P:Program} {ops:Array Oper} {tm:Array Value} {o:Oper} {a:Act} {w:World} {K:Act→World→Prop} {Q:Exit→Act→World→Prop} {E:Prop}
  (hg:o.guard=none) (s x:Operand) (t:TypeId) (ho:o.op=.call { callee:=.builtin .append,args:=#[s,x],argTypes:=#[t,t] })
  (e:TypeId) (z:Value) (k bytes:Nat) (ht:P.underlying t=some (.slice e)) (hinfo:(P.info? e).map (fun i=>(i.zero,i.size,i.bytes))=some (some z,k,bytes)) (yh:z.cells.size=k) (xQ:0 < k) (Au:bytes≤1000)
  (B g:Nat) (hs:a.eval s=F (some ⟨g,0,none⟩) 0 0) (hL:ai w g e []) (hB:B≤g)
  (S:Nat) (A:Option Addr) (m c:Nat) (cs:List Value) (hx:a.eval x=F A m c) (hr:bm w S k A m cs) (h1:∀ u ∈ cs,u.oneCell'=true) (hm:m≤1000000)
  (h:∀ v' w',w'.ownsRow B e k v' m cs→Below w.heap.size w w'→K (a.put o.dst v') w'):if Region.wanted o (yielded ops tm)=true then o.wp P a w K Q else E:=by
 have hw:∀ tm:Array Value,Region.wanted o (yielded ops tm)=true:=fun tm=>by simp [Region.wanted,hg]
 rw [if_pos (hw _)]
 obtain ⟨i,hi,hz,hs',hb⟩:=info_parts hinfo
 have hbytes:(0+m) * bytes≤140737488355328:=by have:=Nat.mul_le_mul (show 0+m≤1000000 by omega) Au; omega
 have wQ:=hL.lt
 rcases Nat.eq_zero_or_pos m with h0 | h0
 ·subst h0
  have hc0:cs = []:=List.eq_nil_of_length_eq_zero (by simpa using hr.len)
  subst hc0
  have xg:w.ownsRow B e k (F (some ⟨g,0,none⟩) 0 0) 0 []:=dw hL hB
  have xz:(Builtin.append_ #[t,t] o.type #[F (some ⟨g,0,none⟩) 0 0,F A 0 c]).run P w=.ok (F (some ⟨g,0,none⟩) 0 0) w:=by
   rcases A with _ | ad
   ·exact iJ w B t o.type e i k ht hi _ 0 [] xg c
   ·simp [Builtin.append_,run_underlying ht,sizeOf,typeInfo,hi,Builtin.lenOf,Builtin.firstCells,loadCells,loadCellsFrom,storeCells]
  unfold Oper.wp execOp
  simp only [ho,resolve,invoke,builtin,Sem.run_bind,Sem.run_pure,Result.andThen_ok,List.map_toArray,List.map_cons,List.map_nil,hs,hx,xz]
  exact h _ _ xg jB
 ·obtain ⟨b,off,rfl,hlt',hcell⟩:=hr.at_ h0
  have key:=step_append_grows (P:=P) (ops:=ops) (a:=a) (w:=w) (K:=K) (Q:=Q) (E:=E) hg s x t ho e i z k bytes ht hi hz hs' hb yh xQ (some ⟨g,0,none⟩) 0 0 [] hs sP sP sP ⟨b,off,none⟩ m c cs hx hr.len (fun j u hu=>by rw [cR]; exact hcell j u hu) h1 oM (by unfold maxLen; omega) hbytes (fun v' w' h2 h3=>by
   rw [Nat.zero_add,List.nil_append] at h2
   exact h v' w' (ah h2 oM) (jB.grown h3 nR (fun j hj=>by cases hj)))
  rw [if_pos (hw _)] at key
  exact key
def eu (w:World) (y:Oc) (e:Ending) (w' : World):Prop :=
 ∃ TA tc OA oc,e=.returned (y.at TA tc OA oc).val∧w'.ownsRow w.heap.size 104 2 (F TA y.t.length tc) y.t.length (y.t.flatMap aq.enc)∧w'.ownsRow w.heap.size 147 3 (F OA y.o.length oc) y.o.length (y.o.flatMap ae.enc)∧Below w.heap.size w w'
theorem cd:104 ≠ 40:=dD
theorem ci:147 ≠ 40:=dD
set_option maxRecDepth 100000 in
theorem jv (x:aO) (w:World) (h:aQ w w.heap.size x) (tl:x.t.length≤1000000) (ol:x.o.length≤1000000) :
  Calls wH 81 #[x.val] w (eu w x.c):=by
 have L1:=(ai.new w 40 #[F x.TA x.t.length x.tc,F x.OA x.o.length x.oc,O U x.gt,O U x.sd,O U x.ms]).alloc (.cells #[F none 0 0,F none 0 0,O U 0,O U 0,O U 0] 40)
 have L2:=ai.new1 w (.cells #[F x.TA x.t.length x.tc,F x.OA x.o.length x.oc,O U x.gt,O U x.sd,O U x.ms] 40) 40 #[F none 0 0,F none 0 0,O U 0,O U 0,O U 0]
 have b1:=bZ w (.cells #[F x.TA x.t.length x.tc,F x.OA x.o.length x.oc,O U x.gt,O U x.sd,O U x.ms] 40)
 have b2:=b1.alloc b1.size (.cells #[F none 0 0,F none 0 0,O U 0,O U 0,O U 0] 40)
 clear b1
 go_enter Tryz.func81,Tryz.ntmps81
 go_wp2_with fail
 generalize ((w.alloc (.cells #[F x.TA x.t.length x.tc,F x.OA x.o.length x.oc,O U x.gt,O U x.sd,O U x.ms] 40)).alloc (.cells #[F none 0 0,F none 0 0,O U 0,O U 0,O U 0] 40))=W at L1 L2 b2 ⊢
 have hR:=h.up b2 nR
 have hT:=hR.ts
 have hO:=hR.os
 have l1:=L1.lt
 have l2:=L2.lt
 clear h hR
 refine fw (fun W9=>Below W.heap.size W W9) (fun w1 w2=>Below w1.heap.size w1 w2) kZ kZ kZ kZ jB.drew ?_
 simp only [ax,Act.put,sA,gs0,gs1,Nat.zero_add,Nat.reduceAdd]
 refine cK (fun v w9=>∃ g,v=F (some ⟨g,0,none⟩) 0 0∧w.heap.size≤g∧ai w9 g 104 []) (fun v w1 w2 hv yD=>by obtain ⟨g,e,hg,hl⟩:=hv; exact ⟨g,e,hg,hl.below yD hl.lt⟩) (fun vs w9 wI hB K9 wJ=>?_) ?_
 ·go_simp
  exact wJ _ _ _ rfl ⟨_,rfl,jT b2.size wI.size,ai.new w9 104 #[]⟩ (wI.alloc wI.size _) (jB.alloc nR _)
 refine aH (.pointer (some ⟨w.heap.size,0,none⟩)) (fun vs w9 wI hB K9 wJ=>?_) ?_
 ·go_simp
  exact wJ _ _ rfl wI jB
 refine aH (F x.TA x.t.length x.tc) (fun vs w9 wI hB K9 wJ=>?_) ?_
 ·have hd:=hB 1 _ kZ rfl
  simp only [hd] at wJ ⊢
  have q1:w9.cell? ⟨w.heap.size,0,none⟩=some (F x.TA x.t.length x.tc):=(L1.below wI L1.lt).cell 0
  go_simp
  exact wJ _ _ rfl wI jB
 refine cK (fun v w9=>∃ A c,v=F A x.t.length c∧w9.ownsRow w.heap.size 104 2 (F A x.t.length c) x.t.length (x.t.flatMap aq.enc)) (fun v w1 w2 hv yD=>by obtain ⟨A,c,e,ho⟩:=hv; exact ⟨A,c,e,ac ho yD⟩) (fun vs w9 wI hB K9 wJ=>?_) ?_
 ·obtain ⟨g,e0,hg,hl⟩:=hB 0 _ kZ rfl
  have hd:=hB 2 _ kZ rfl
  simp only [e0,hd] at wJ ⊢
  refine lF rfl (.tmp 3) (.tmp 5) 37 rfl 104 _ 2 16 Tryz.underlying37 dR rfl oM oM w.heap.size g (by rfl) hl hg W.heap.size x.TA x.t.length x.tc (x.t.flatMap aq.enc) (by rfl) (bm.below hT wI) eJ tl ?_
  intro v' w' ho hb
  obtain ⟨A',c',rfl⟩:=az ho
  exact wJ _ _ _ rfl ⟨A',c',rfl,ho⟩ (wI.trans (hb.mono wI.size)) hb
 refine cK (fun v w9=>∃ g,v=F (some ⟨g,0,none⟩) 0 0∧w.heap.size≤g∧ai w9 g 147 []) (fun v w1 w2 hv yD=>by obtain ⟨g,e,hg,hl⟩:=hv; exact ⟨g,e,hg,hl.below yD hl.lt⟩) (fun vs w9 wI hB K9 wJ=>?_) ?_
 ·go_simp
  exact wJ _ _ _ rfl ⟨_,rfl,jT b2.size wI.size,ai.new w9 147 #[]⟩ (wI.alloc wI.size _) (jB.alloc nR _)
 refine aH (.pointer (some ⟨w.heap.size,1,none⟩)) (fun vs w9 wI hB K9 wJ=>?_) ?_
 ·go_simp
  exact wJ _ _ rfl wI jB
 refine aH (F x.OA x.o.length x.oc) (fun vs w9 wI hB K9 wJ=>?_) ?_
 ·have hd:=hB 5 _ kZ rfl
  simp only [hd] at wJ ⊢
  have q1:w9.cell? ⟨w.heap.size,1,none⟩=some (F x.OA x.o.length x.oc):=(L1.below wI L1.lt).cell 1
  go_simp
  exact wJ _ _ rfl wI jB
 refine cK (fun v w9=>∃ A c,v=F A x.o.length c∧w9.ownsRow w.heap.size 147 3 (F A x.o.length c) x.o.length (x.o.flatMap ae.enc)) (fun v w1 w2 hv yD=>by obtain ⟨A,c,e,ho⟩:=hv; exact ⟨A,c,e,ac ho yD⟩) (fun vs w9 wI hB K9 wJ=>?_) ?_
 ·obtain ⟨g,e0,hg,hl⟩:=hB 4 _ kZ rfl
  have hd:=hB 6 _ kZ rfl
  simp only [e0,hd] at wJ ⊢
  refine lF rfl (.tmp 7) (.tmp 9) 38 rfl 147 _ 3 24 Tryz.underlying38 ex rfl oM oM w.heap.size g (by rfl) hl hg W.heap.size x.OA x.o.length x.oc (x.o.flatMap ae.enc) (by rfl) (bm.below hO wI) fu ol ?_
  intro v' w' ho hb
  obtain ⟨A',c',rfl⟩:=az ho
  exact wJ _ _ _ rfl ⟨A',c',rfl,ho⟩ (wI.trans (hb.mono wI.size)) hb
 refine aH (.pointer (some ⟨w.heap.size,2,none⟩)) (fun vs w9 wI hB K9 wJ=>?_) ?_
 ·go_simp
  exact wJ _ _ rfl wI jB
 refine aH (O U x.gt) (fun vs w9 wI hB K9 wJ=>?_) ?_
 ·have hd:=hB 8 _ kZ rfl
  simp only [hd] at wJ ⊢
  have q1:w9.cell? ⟨w.heap.size,2,none⟩=some (O U x.gt):=(L1.below wI L1.lt).cell 2
  go_simp
  exact wJ _ _ rfl wI jB
 refine aH (.pointer (some ⟨w.heap.size,3,none⟩)) (fun vs w9 wI hB K9 wJ=>?_) ?_
 ·go_simp
  exact wJ _ _ rfl wI jB
 refine aH (O U x.sd) (fun vs w9 wI hB K9 wJ=>?_) ?_
 ·have hd:=hB 10 _ kZ rfl
  simp only [hd] at wJ ⊢
  have q1:w9.cell? ⟨w.heap.size,3,none⟩=some (O U x.sd):=(L1.below wI L1.lt).cell 3
  go_simp
  exact wJ _ _ rfl wI jB
 refine aH (.pointer (some ⟨w.heap.size,4,none⟩)) (fun vs w9 wI hB K9 wJ=>?_) ?_
 ·go_simp
  exact wJ _ _ rfl wI jB
 refine aH (O U x.ms) (fun vs w9 wI hB K9 wJ=>?_) ?_
 ·have hd:=hB 12 _ kZ rfl
  simp only [hd] at wJ ⊢
  have q1:w9.cell? ⟨w.heap.size,4,none⟩=some (O U x.ms):=(L1.below wI L1.lt).cell 4
  go_simp
  exact wJ _ _ rfl wI jB
 refine cK (fun v w9=>∃ A c A' c',v=.agg #[F A x.t.length c,F A' x.o.length c',O U x.gt,O U x.sd,O U x.ms]∧w9.ownsRow w.heap.size 104 2 (F A x.t.length c) x.t.length (x.t.flatMap aq.enc)∧w9.ownsRow w.heap.size 147 3 (F A' x.o.length c') x.o.length (x.o.flatMap ae.enc))
  (fun v w1 w2 hv yD=>by obtain ⟨A,c,A',c',e,ho,hp⟩:=hv; exact ⟨A,c,A',c',e,ac ho yD,ac hp yD⟩) (fun vs w9 wI hB K9 wJ=>?_) ?_
 ·obtain ⟨A,c,e3,ho⟩:=hB 3 _ kZ rfl
  obtain ⟨A',c',e7,hp⟩:=hB 7 _ kZ rfl
  have d9:=hB 9 _ kZ rfl
  have d11:=hB 11 _ kZ rfl
  have d13:=hB 13 _ kZ rfl
  have ho:=jZ ho
  have hp:=jZ hp
  simp only [e3,e7,d9,d11,d13] at wJ ⊢
  go_simp
  exact wJ _ _ _ rfl ⟨A,c,A',c',rfl,ho.out,hp.out⟩ wI jB
 refine gI (fun vs w9 wI hB K9 wJ=>?_)
 obtain ⟨A,c,A',c',e14,ho,hp⟩:=hB 14 _ rfl
 simp only [e14] at wJ ⊢
 have wU:=L2.below wI L2.lt
 have z0:=wU.cell 0
 have z1:=wU.cell 1
 have z2:=wU.cell 2
 have z3:=wU.cell 3
 have z4:=wU.cell 4
 obtain ⟨f0,f1,f2,f3,f4⟩:=frz5 wU
 simp only [gz0,gz1] at z0 z1 z2 z3 z4
 have wY:=(gw5 w9 (w.heap.size+1) (F A x.t.length c) (F A' x.o.length c') (O U x.gt) (O U x.sd) (O U x.ms))
 have bw:=b2.trans (wI.mono b2.size)
 have bz:=bw.grown wY bw.size (by rintro _ ⟨⟩; omega)
 have R8:=jZ (ak ho wU cd wY)
 have R9:=jZ (ak hp wU ci wY)
 clear wY ho hp hB wU
 go_simp
 refine wJ _ _ ?_
 clear wJ K9
 go_wp2
 refine bodyPost_ret (v:=.agg #[F A x.t.length c,F A' x.o.length c',O U x.gt,O U x.sd,O U x.ms]) (by simp [results,Tryz.results81,go_sem, *]) rfl ?_
 exact ⟨A,c,A',c',rfl,R8.out,R9.out,bz⟩
end Go.Proofs.YtoeoimhemojdeaaGreatDoor
