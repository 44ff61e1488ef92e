/- Lemmas. -/
import Derived.OwnWalk
import Derived.Maps.AppendAt
import Derived.Lib.Overlaps
import Derived.Lib.SliceRun
import Derived.Laws.IdiomCopy
import Derived.Deep.RegionLaw
import Derived.Laws.Externs
import Derived.Lib.AppendZerosOnto
import Derived.Laws.OwnMore
import Derived.Deep.RegionHeld3
import Derived.Test.YtoeoimhemojdeaaGreatDoorFc09

set_option linter.unusedVariables false
set_option linter.unusedSimpArgs false
set_option maxHeartbeats 8000000
open Go.Value renaming int → O, slice → F, string → vw
open Go.IntKind renaming i64 → U
open Go.Proofs.Tryz renaming prog → vx

namespace Go.Proofs.YtoeoimhemojdeaaGreatDoor
open Go.RowKit
theorem aZ (x:aO) (g:Nat) (w:World) (h:cm w w.heap.size g x) :
  Calls vx 67 #[.pointer (some ⟨g,0,none⟩)] w fun e w'=>e=.returned (.bool (an x))∧Below w.heap.size w w':=by
 cases hv:(fb x && iJ x)
 ·exact lH x g w h hv
 ·exact kV x g w h hv
theorem hQ {x:aO} {w:World} (h:aP w w.heap.size x) (t:TypeId):cm (w.alloc (.cells #[F x.TA x.t.length x.tc,F x.OA x.o.length x.oc,O U x.gt,O U x.sd,O U x.ms] t)) (w.alloc (.cells #[F x.TA x.t.length x.tc,F x.OA x.o.length x.oc,O U x.gt,O U x.sd,O U x.ms] t)).heap.size w.heap.size x :=
 cm.of (x:=x) (ah.new w t #[F x.TA x.t.length x.tc,F x.OA x.o.length x.oc,O U x.gt,O U x.sd,O U x.ms]) (h.up (bZ w _) nR)
def tK (g:Bool) (v:Int):Int:=if g then v else 0
theorem iQ (x:aO) (w:World) (h:aP w w.heap.size x):Calls vx 136 #[x.val] w fun e w'=>e=.returned (.tuple #[O U (tK (an x) (cr x.t)),.bool (an x)])∧Below w.heap.size w w':=by
 have b1:=bZ w (.cells #[F x.TA x.t.length x.tc,F x.OA x.o.length x.oc,O U x.gt,O U x.sd,O U x.ms] 40)
 have hA:=hQ h 40
 have cG:=fun W hW=>ef x W hW
 cases hg:an x
 ·rw [hg] at cG
  clear hg
  go_enter Tryz.func136,Tryz.ntmps136
  go_wp2_with fail
  generalize w.alloc (.cells #[F x.TA x.t.length x.tc,F x.OA x.o.length x.oc,O U x.gt,O U x.sd,O U x.ms] 40)=W at b1 hA ⊢
  refine (cG _ hA.r).mono ?_
  rintro e w1 ⟨rfl,hb⟩
  go_wp2
  go_ret2
  exact ⟨rfl,av b1 hb⟩
 ·rw [hg] at cG
  have G:=bi.1 hg
  have cM:=fun W hW=>jF x W hW G.tl G.ol G.tall G.oall
  clear hg G
  go_enter Tryz.func136,Tryz.ntmps136
  go_wp2_with fail
  generalize w.alloc (.cells #[F x.TA x.t.length x.tc,F x.OA x.o.length x.oc,O U x.gt,O U x.sd,O U x.ms] 40)=W at b1 hA ⊢
  obtain ⟨p0,p1,p2,p3,p4⟩:=hA.s
  refine (aX (cG _ hA.r)).mono ?_
  rintro e w1 ⟨rfl,q1,rfl⟩
  go_wp2_with fail
  refine (aQ nR (cM _ (hA.r.at q1))).mono ?_
  rintro e w2 ⟨rfl,q2,rfl⟩
  go_wp2
  go_ret2
  exact ⟨rfl,b1.trans (q2.below.mono b1.size)⟩
theorem kW (x:aO) (w:World) (h:aP w w.heap.size x):Calls vx 138 #[x.val] w fun e w'=>e=.returned (.tuple #[O U (tK (an x) (aW de x.o)),.bool (an x)])∧Below w.heap.size w w':=by
 have b1:=bZ w (.cells #[F x.TA x.t.length x.tc,F x.OA x.o.length x.oc,O U x.gt,O U x.sd,O U x.ms] 40)
 have hA:=hQ h 40
 have cG:=fun W hW=>ef x W hW
 cases hg:an x
 ·rw [hg] at cG
  clear hg
  go_enter Tryz.func138,Tryz.ntmps138
  go_wp2_with fail
  generalize w.alloc (.cells #[F x.TA x.t.length x.tc,F x.OA x.o.length x.oc,O U x.gt,O U x.sd,O U x.ms] 40)=W at b1 hA ⊢
  refine (cG _ hA.r).mono ?_
  rintro e w1 ⟨rfl,hb⟩
  go_wp2
  go_ret2
  exact ⟨rfl,av b1 hb⟩
 ·rw [hg] at cG
  have G:=bi.1 hg
  have cM:=fun W hW=>jF x W hW G.tl G.ol G.tall G.oall
  clear hg G
  go_enter Tryz.func138,Tryz.ntmps138
  go_wp2_with fail
  generalize w.alloc (.cells #[F x.TA x.t.length x.tc,F x.OA x.o.length x.oc,O U x.gt,O U x.sd,O U x.ms] 40)=W at b1 hA ⊢
  obtain ⟨p0,p1,p2,p3,p4⟩:=hA.s
  refine (aX (cG _ hA.r)).mono ?_
  rintro e w1 ⟨rfl,q1,rfl⟩
  go_wp2_with fail
  refine (aQ nR (cM _ (hA.r.at q1))).mono ?_
  rintro e w2 ⟨rfl,q2,rfl⟩
  go_wp2
  go_ret2
  exact ⟨rfl,b1.trans (q2.below.mono b1.size)⟩
theorem oy (w:World) (vs:Array Value) (t:TypeId):∀ j u,vs.toList[j]?=some u→(w.alloc (.cells vs t)).cell? ((⟨w.heap.size,0,none⟩ : Addr).add j)=some u:=by
 intro j u hj
 have e:((⟨w.heap.size,0,none⟩ : Addr).add j)=⟨w.heap.size,j,none⟩:=by unfold Addr.add; by_cases h:j=0 <;> simp [h]
 rw [e,(ah.new w t vs).cell]; exact hj
theorem kX {w w' : World} {B:Nat} {e:TypeId} {k:Nat} {v:Value} {n:Nat} {xs:List Value} (h:w'.heap=w.heap) (ho:w.ownsRow B e k v n xs):w'.ownsRow B e k v n xs:=by
 unfold World.ownsRow at *; rw [h]; exact ho
theorem cZ {P:Program} {ops:Array Oper} {rest:List Oper} {o:Oper} {a:Act} {w0 wA:World} {Q:Exit→Act→World→Prop} (xX:o.guard=none) (s x:Operand) (t:TypeId)
  (ho:o.op=.call { callee:=.builtin .append,args:=#[s,x],argTypes:=#[t,t] })
  (e:TypeId) (z:Value) (k bytes:Nat) (ht:P.underlying t=some (.slice e)) (hinfo:(P.info? e).map (fun i=>(i.zero,i.size,i.bytes))=some (some z,k,bytes)) (xf:z.cells.size=k) (wH:0 < k) (zj:bytes≤1000)
  (B:Nat) (v:Value) (n:Nat) (xs:List Value) (hs:a.eval s=v) (vT:Hid (w0.ownsRow B e k v n xs))
  (vs:Array Value) (c g:Nat) (hx:a.eval x=F (some ⟨g,0,none⟩) 1 c) (hg:w0.heap.size=g) (Cf:vs.size=k) (h1:vs.all (·.oneCell')=true) (hn:n < 1000000000) (hbase:B≤w0.heap.size)
  (hheap:wA.heap=(w0.alloc (.cells vs e)).heap) (Eb:wA.os=w0.os) (htape:wA.tape=w0.tape) (Da:wA.output=w0.output)
  (h:∀ v' w',Hid (w'.ownsRow B e k v' (n+1) (xs++vs.toList))→w0.grownBy w' v.ownBlock→Below B w0 w'→wpList P ops Q rest (a.put o.dst v') w'):wpList P ops Q (o :: rest) a wA:=by
 subst hg
 obtain ⟨i,hi,hz,hs',hb⟩:=info_parts hinfo
 have hown':=vT.out
 have hsize:wA.heap.size=w0.heap.size+1:=by rw [hheap]; exact Array.size_push _
 have hblock:∀ j,j < w0.heap.size→wA.heap[j]?=w0.heap[j]?:=fun j hj=>by rw [hheap]; exact Below.heap_alloc w0 _ j hj
 have h4:w0.grownBy wA v.ownBlock:=⟨Eb,htape,Da,oM,fun j hj _=>hblock j hj⟩
 refine wpList_append_own (w:=wA) xX s x t ho B e i z k bytes ht hi hz hs' hb xf wH v n xs hs (kX hheap (hown'.alloc _)) ⟨w0.heap.size,0,none⟩ 1 c vs.toList hx (by simp [Cf]) ?_ (fun u hu=>(Array.all_eq_true_iff_forall_mem.1 h1) u (by simpa using hu)) (by unfold maxLen; omega) ?_ oM fun v' w' h2 h3 _=>h v' w' h2 ?_ ?_
 ·intro j u hj
  have:=oy w0 vs e j u hj
  rw [← this]; exact World.cell?_of_block (by rw [hheap])
 ·have:=Nat.mul_le_mul (show n+1≤1000000000 by omega) zj
  omega
 ·exact ⟨h3.os.trans h4.os,h3.tape.trans h4.tape,h3.output.trans h4.output,jT h4.size h3.size,fun j hj vJ=>(h3.block j (jL hj h4.size) vJ).trans (h4.block j hj vJ)⟩
 ·exact ((Below.refl B w0).grown h4 hbase (fun j hj=>(hown'.lt j hj).1)).grown h3 oM (fun j hj=>(hown'.lt j hj).1)
theorem az {w:World} {B:Nat} {e:TypeId} {k:Nat} {v:Value} {n:Nat} {xs:List Value} (h:w.ownsRow B e k v n xs):∃ A c,v=F A n c:=by
 obtain ⟨_,⟨rfl,rfl⟩ | ⟨g,cap,_,rfl,_⟩⟩:=h
 ·exact ⟨_,_,rfl⟩
 ·exact ⟨_,_,rfl⟩
theorem jI {P:Program} (w:World) (base:Nat) (t ty e:TypeId) (i:TypeInfo) (size:Nat) (ht:P.underlying t=some (.slice e)) (hi:P.info? e=some i)
  (v:Value) (n:Nat) (xs:List Value) (vT:w.ownsRow base e size v n xs) (c:Nat):(Builtin.append_ #[t,t] ty #[v,F none 0 c]).run P w=.ok v w:=by
 obtain ⟨_,⟨rfl,rfl⟩ | ⟨g,cap,cur,rfl,_,_,vM,_⟩⟩:=vT
 ·simp [Builtin.append_,run_underlying ht,sizeOf,typeInfo,hi,Builtin.lenOf,Builtin.firstCells]
 ·simp [Builtin.append_,run_underlying ht,sizeOf,typeInfo,hi,Builtin.lenOf,Builtin.firstCells,vM,storeCells]
theorem df (b o j:Nat):((⟨b,o,none⟩ : Addr).add j)=⟨b,o+j,none⟩:=by unfold Addr.add; by_cases h:j=0 <;> simp [h]
theorem tL {P:Program} {o:Oper} {a:Act} {w:World} {K:Act→World→Prop} {Q:Exit→Act→World→Prop} (s x:Operand) (t:TypeId)
  (ho:o.op=.call { callee:=.builtin .append,args:=#[s,x],argTypes:=#[t,t] })
  (e:TypeId) (z:Value) (k bytes:Nat) (ht:P.underlying t=some (.slice e)) (hinfo:(P.info? e).map (fun i=>(i.zero,i.size,i.bytes))=some (some z,k,bytes)) (xf:z.cells.size=k) (wH:0 < k) (zj:bytes≤1000)
  (B:Nat) (v:Value) (n:Nat) (xs:List Value) (hs:a.eval s=v) (vT:Hid (w.ownsRow B e k v n xs))
  (S:Nat) (A:Option Addr) (m c:Nat) (cs:List Value) (hx:a.eval x=F A m c) (hr:Hid (bn w S k A m cs)) (h1:∀ u ∈ cs,u.oneCell'=true)
  (hn:n+m≤1000000000) (hbase:B≤w.heap.size)
  (h:∀ v' w',Hid (w'.ownsRow B e k v' (n+m) (xs++cs))→w.grownBy w' v.ownBlock→Below B w w'→(v'.ownBlock=v.ownBlock ∨ v'.ownBlock=some w.heap.size)→K (a.put o.dst v') w'):o.wp P a w K Q:=by
 obtain ⟨i,hi,hz,hs',hb⟩:=info_parts hinfo
 have hbytes:(n+m) * bytes≤140737488355328:=by have:=Nat.mul_le_mul hn zj; omega
 have fin:∀ v' w',(Builtin.append_ #[t,t] o.type #[v,F A m c]).run P w=.ok v' w'→w'.ownsRow B e k v' (n+m) (xs++cs)→w.grownBy w' v.ownBlock→(v'.ownBlock=v.ownBlock ∨ v'.ownBlock=some w.heap.size)→o.wp P a w K Q:=by
  intro v' w' wo h2 h3 h4
  unfold Oper.wp execOp
  simp only [ho,resolve,invoke,builtin,Sem.run_bind,Sem.run_pure,Result.andThen_ok,List.map_toArray,List.map_cons,List.map_nil,hs,hx,wo]
  exact h v' w' h2 h3 ((Below.refl B w).grown h3 hbase (fun j hj=>(vT.out.lt j hj).1)) h4
 rcases Nat.eq_zero_or_pos m with h0 | h0
 ·subst h0
  have hc0:cs = []:=List.eq_nil_of_length_eq_zero (by simpa using hr.out.len)
  subst hc0
  rcases A with _ | ad
  ·exact fin v w (jI w B t o.type e i k ht hi v n xs vT.out c) (by simpa using vT.out) (World.grownBy.refl w _) (.inl rfl)
  ·obtain ⟨v',w',wo,h2,h3,_,h5⟩:=run_append_own_at (P:=P) w B t o.type e i z k bytes ht hi hz hs' hb xf wH v n xs vT.out ad 0 c [] sP sP sP (by unfold maxLen; omega) hbytes hbase
   exact fin v' w' wo h2 h3 h5
 ·obtain ⟨b,off,rfl,vH,hcell⟩:=hr.out.at_ h0
  obtain ⟨v',w',wo,h2,h3,_,h5⟩:=run_append_own_at (P:=P) w B t o.type e i z k bytes ht hi hz hs' hb xf wH v n xs vT.out ⟨b,off,none⟩ m c cs hr.out.len (fun j u hu=>by rw [df]; exact hcell j u hu) h1 (by unfold maxLen; omega) hbytes hbase
  exact fin v' w' wo h2 h3 h5
theorem hU {P:Program} {ops:Array Oper} {rest:List Oper} {o:Oper} {a:Act} {w:World} {Q:Exit→Act→World→Prop} (xX:o.guard=none) (s x:Operand) (t:TypeId)
  (ho:o.op=.call { callee:=.builtin .append,args:=#[s,x],argTypes:=#[t,t] })
  (e:TypeId) (z:Value) (k bytes:Nat) (ht:P.underlying t=some (.slice e)) (hinfo:(P.info? e).map (fun i=>(i.zero,i.size,i.bytes))=some (some z,k,bytes)) (xf:z.cells.size=k) (wH:0 < k) (zj:bytes≤1000)
  (B:Nat) (v:Value) (n:Nat) (xs:List Value) (hs:a.eval s=v) (vT:Hid (w.ownsRow B e k v n xs))
  (S:Nat) (A:Option Addr) (m c:Nat) (cs:List Value) (hx:a.eval x=F A m c) (hr:Hid (bn w S k A m cs)) (h1:∀ u ∈ cs,u.oneCell'=true)
  (hn:n+m≤1000000000) (hbase:B≤w.heap.size)
  (h:∀ v' w',Hid (w'.ownsRow B e k v' (n+m) (xs++cs))→w.grownBy w' v.ownBlock→Below B w w'→(v'.ownBlock=v.ownBlock ∨ v'.ownBlock=some w.heap.size)→wpList P ops Q rest (a.put o.dst v') w'):wpList P ops Q (o :: rest) a w :=
 wpList_plain xX fun _ hK=>tL s x t ho e z k bytes ht hinfo xf wH zj B v n xs hs vT S A m c cs hx hr h1 hn hbase fun v' w' h2 h3 h4 h5=>hK _ _ (h v' w' h2 h3 h4 h5)
theorem dO {w:World} {B g:Nat} {e:TypeId} {k:Nat} (h:ah w g e []) (hB:B≤g):w.ownsRow B e k (F (some ⟨g,0,none⟩) 0 0) 0 []:=h.own hB sP (by unfold maxLen; omega)
theorem ah.setCells {g:Nat} {t:TypeId} : ∀ (vs:List Value) (o:Nat) (w:World) (cs:List Value),ah w g t cs→o+vs.length≤cs.length→ah (w.setCells g o vs) g t (aY cs o vs)
 | [],o,w,cs,h,_=>by simpa [World.setCells,aY] using h
 | v :: r,o,w,cs,h,hl=>by
  rw [World.setCells]
  have h2:=ah.setCells r (o+1) (w.setCell ⟨g,o,none⟩ v) (cs.set o v) (h.set o v) (by simp at hl ⊢; omega)
  have e:aY (cs.set o v) (o+1) r=aY cs o (v :: r):=by
   unfold aY
   have vH:o < cs.length:=by simp at hl; omega
   have e1:(cs.set o v).take (o+1)=cs.take o++[v]:=by
    rw [List.take_set,List.take_succ_eq_append_getElem vH,List.set_append_right _ _ (by rw [List.length_take]; omega)]
    rw [List.length_take,Nat.min_eq_left oM,Nat.sub_self]; rfl
   have e2:(cs.set o v).drop (o+1+r.length)=cs.drop (o+(v :: r).length):=by
    rw [List.drop_set_of_lt oM]; congr 1; simp; omega
   rw [e1,e2]; simp
  rw [e] at h2; exact h2
theorem fR {a:World} {g:Nat} : ∀ (vs:List Value) (o:Nat) (w:World),a.grownBy w (some g)→a.grownBy (w.setCells g o vs) (some g)
 | [],_,_,h=>h
 | v :: r,o,w,h=>by
  rw [World.setCells]
  have hs:a.grownBy (w.setCell ⟨g,o,none⟩ v) (some g) :=
   ⟨h.os,h.tape,h.output,by have:=h.size; simpa [World.setCell] using this,fun k hk vJ=>(Below.heap_setCell w ⟨g,o,none⟩ v k (fun e=>vJ (by rw [e]))).trans (h.block k hk vJ)⟩
  exact fR r (o+1) _ hs
theorem ah.drew {w:World} {g:Nat} {t:TypeId} {cs:List Value} (h:ah w g t cs):ah w.drew g t cs:=h
theorem qZ {P:Program} (w:World) (dT sT ty elem:TypeId) (k b o dLen dCap:Nat) (a:Addr) (sLen sCap:Nat) (cs:List Value)
  (hu:P.underlying dT=some (.slice elem)) (hs:(P.info? elem).map (·.size)=some k) (hn:cs.length=Nat.min sLen dLen * k)
  (yN:∀ j v,cs[j]?=some v→w.cell? (a.add j)=some v) (hc:∀ j,j < cs.length→(w.cell? ⟨b,o+j,none⟩).isSome=true) (hf:∀ j,j < cs.length→w.frozen? ⟨b,o+j,none⟩=false) (h1:∀ v ∈ cs,v.oneCell'=true) :
  (Builtin.copy_ #[dT,sT] ty #[F (some ⟨b,o,none⟩) dLen dCap,F (some a) sLen sCap]).run P w=.ok (goInt (Nat.min sLen dLen)) (w.setCells b o cs):=by
 have vX:=run_storeCells_cells (P:=P) b o cs 0 w (by simpa using hc) (by simpa using hf) h1
 cases hq:P.info? elem with
 | none=>simp [hq] at hs
 | some i =>
  have hi:i.size=k:=by simpa [hq] using hs
  have JL:=run_firstCells_some (P:=P) w k (Nat.min sLen dLen) a sLen sCap cs hn yN
  simp [Builtin.copy_,run_underlying hu,Builtin.lenOf,sizeOf,typeInfo,hq,hi,JL,vX]
theorem o4 {P:Program} (w:World) (dT sT ty elem e:TypeId) (k b o dLen dCap:Nat) (a:Addr) (sLen sCap m:Nat) (cs cur:List Value)
  (hu:P.underlying dT=some (.slice elem)) (hs:(P.info? elem).map (·.size)=some k) (hm:Nat.min sLen dLen=m) (hn:cs.length=m * k)
  (hL:ah w b e cur) (zr:o+cs.length≤cur.length) (yN:∀ j v,cs[j]?=some v→w.cell? (a.add j)=some v) (h1:∀ v ∈ cs,v.oneCell'=true) :
  (Builtin.copy_ #[dT,sT] ty #[F (some ⟨b,o,none⟩) dLen dCap,F (some a) sLen sCap]).run P w=.ok (goInt m) (w.setCells b o cs):=by
 subst hm
 exact qZ w dT sT ty elem k b o dLen dCap a sLen sCap cs hu hs hn yN (fun j hj=>by rw [hL.cell,List.getElem?_eq_getElem oM]; rfl) (fun j hj=>hL.frozen _) h1
theorem pL {P:Program} (w:World) (t e ty:TypeId) (z:Value) (zs:List Value) (ht:P.underlying t=some (.slice e)) (hv:∀ w,(zeroValue e).run P w=.ok z w) (b o n c:Nat) (hn:0 < n) (hz:(Builtin.zeroCells z.cells n).toList=zs) (h1:∀ v ∈ zs,v.oneCell'=true)
  (hc:∀ j,j < zs.length→(w.cell? ⟨b,o+j,none⟩).isSome=true) (hf:∀ j,j < zs.length→w.frozen? ⟨b,o+j,none⟩=false) :
  (Builtin.clear_ #[t] ty #[F (some ⟨b,o,none⟩) n c]).run P w=.ok (.tuple #[]) (w.setCells b o zs):=by
 have vX:=run_storeCells_cells (P:=P) b o zs 0 w (by simpa using hc) (by simpa using hf) h1
 simp only [Nat.add_zero] at vX
 obtain ⟨m,rfl⟩ : ∃ m,n=m+1:=⟨n - 1,oM⟩
 simp [Builtin.clear_,run_underlying ht,hv,hz,vX]
theorem kw (cur xs x:List Value) (i k n:Nat) (hx:x.length=k) (Ar:xs.length=n * k) (hi:i≤n) (wL:cur.take (n * k)=xs) (hroom:(n+1) * k≤cur.length) :
  (aY (aY cur (i * k+k) (xs.drop (i * k))) (i * k) x).take ((n+1) * k)=xs.take (i * k)++x++xs.drop (i * k):=by
 have yb:i * k≤n * k:=Nat.mul_le_mul_right k hi
 have ym:(n+1) * k=n * k+k:=Nat.succ_mul n k
 rw [ym] at hroom ⊢
 have Db:n * k≤cur.length:=oM
 have et:(cur.take (i * k))=xs.take (i * k):=by rw [← wL,List.take_take,Nat.min_eq_left yb]
 have hd:(xs.drop (i * k)).length=n * k - i * k:=by rw [List.length_drop,Ar]
 have e1:aY cur (i * k+k) (xs.drop (i * k))=cur.take (i * k+k)++xs.drop (i * k)++cur.drop (n * k+k):=by
  unfold aY; rw [hd]; congr 2; omega
 have l1:(cur.take (i * k+k)).length=i * k+k:=by rw [List.length_take]; omega
 rw [e1]
 unfold aY
 have e2:(cur.take (i * k+k)++xs.drop (i * k)++cur.drop (n * k+k)).take (i * k)=xs.take (i * k):=by
  rw [List.append_assoc,List.take_append_of_le_length oM,List.take_take,Nat.min_eq_left oM,et]
 have e3:(cur.take (i * k+k)++xs.drop (i * k)++cur.drop (n * k+k)).drop (i * k+x.length)=xs.drop (i * k)++cur.drop (n * k+k):=by
  rw [hx,List.append_assoc,List.drop_append_of_le_length oM,List.drop_of_length_le oM,List.nil_append]
 rw [e2,e3,← List.append_assoc]
 have l2:(xs.take (i * k)++x++xs.drop (i * k)).length=n * k+k:=by
  rw [List.length_append,List.length_append,List.length_take,hd,Ar,hx]; omega
 rw [List.take_append_of_le_length oM,List.take_of_length_le oM]
theorem bV (cs vs:List Value) (o:Nat) (h:o+vs.length≤cs.length):(aY cs o vs).length=cs.length:=by
 unfold aY; simp; omega
theorem nW (cur xs zs:List Value) (i k n:Nat) (hz:zs.length=k) (Ar:xs.length=n * k) (hi:i < n) (wL:cur.take (n * k)=xs) (hl:n * k≤cur.length) :
  (aY (aY cur (i * k) (xs.drop (i * k+k))) ((n - 1) * k) zs).take ((n - 1) * k)=xs.take (i * k)++xs.drop (i * k+k):=by
 have yb:i * k+k≤n * k:=by rw [← Nat.succ_mul]; exact Nat.mul_le_mul_right k hi
 have ym:(n - 1) * k+k=n * k:=by rw [← Nat.succ_mul]; congr 1; omega
 have et:(cur.take (i * k))=xs.take (i * k):=by rw [← wL,List.take_take,Nat.min_eq_left oM]
 have hd:(xs.drop (i * k+k)).length=n * k - (i * k+k):=by rw [List.length_drop,Ar]
 have l1:(xs.take (i * k)++xs.drop (i * k+k)).length=(n - 1) * k:=by rw [List.length_append,List.length_take,hd,Ar]; omega
 have e1:(aY cur (i * k) (xs.drop (i * k+k))).take ((n - 1) * k)=xs.take (i * k)++xs.drop (i * k+k):=by
  unfold aY; rw [et,List.take_append_of_le_length oM,List.take_of_length_le oM]
 have l2:(aY cur (i * k) (xs.drop (i * k+k))).length=cur.length:=bV _ _ _ (by rw [hd]; omega)
 have e2:(aY (aY cur (i * k) (xs.drop (i * k+k))) ((n - 1) * k) zs)=(aY cur (i * k) (xs.drop (i * k+k))).take ((n - 1) * k)++(zs++(aY cur (i * k) (xs.drop (i * k+k))).drop ((n - 1) * k+zs.length)):=by
  rw [aY,List.append_assoc]
 rw [e2,List.take_append_of_le_length (by rw [List.length_take]; omega),List.take_take,Nat.min_self,e1]
theorem mo (xs x Z:List Value) (i k n:Nat) (hx:x.length=k) (Ar:xs.length=n * k) (hi:i≤n) (hZ:(n+1) * k≤i * k+Z.length) :
  (aY (aY (xs.take (i * k)++Z) (i * k) x) ((i+1) * k) (xs.drop (i * k))).take ((n+1) * k)=xs.take (i * k)++x++xs.drop (i * k):=by
 have yb:i * k≤n * k:=Nat.mul_le_mul_right k hi
 have ym:(n+1) * k=n * k+k:=Nat.succ_mul n k
 have FV:(i+1) * k=i * k+k:=Nat.succ_mul i k
 rw [ym] at hZ ⊢
 rw [FV]
 have lt:(xs.take (i * k)).length=i * k:=by rw [List.length_take]; omega
 have ld:(xs.drop (i * k)).length=n * k - i * k:=by rw [List.length_drop,Ar]
 have e1:aY (xs.take (i * k)++Z) (i * k) x=xs.take (i * k)++x++Z.drop k:=by
  unfold aY
  rw [List.take_append_of_le_length oM,List.take_of_length_le oM,List.drop_append,List.drop_eq_nil_of_le oM,lt,hx,List.nil_append]
  congr 2; omega
 have l1:(xs.take (i * k)++x).length=i * k+k:=by rw [List.length_append,lt,hx]
 rw [e1]
 unfold aY
 have e2:(xs.take (i * k)++x++Z.drop k).take (i * k+k)=xs.take (i * k)++x:=by
  rw [List.take_append_of_le_length oM,List.take_of_length_le oM]
 rw [e2]
 have l2:(xs.take (i * k)++x++xs.drop (i * k)).length=n * k+k:=by rw [List.length_append,l1,ld]; omega
 rw [List.take_append_of_le_length oM,List.take_of_length_le oM]
theorem ah.shape {w:World} {g:Nat} {t:TypeId} {cs:List Value} (h:ah w g t cs):w.shape? g=some (t,cs.length):=by
 unfold ah at h; simp [World.shape?,h]
theorem iR {P : Program} (w : World) (f : FuncId) (fn : Func) (tS tR e : TypeId) (hf : P.funcs[f]? = some fn) (hname : (fn.name == "runtime.NumGoroutine") = false) (hb : fn.body.isNone = true) (JM : Extern.findNext fn = none) (he : Extern.find fn = some (Extern.SlicesOverlaps.overlaps #[tS, tS] #[tR]))
  (ht:P.underlying tS=some (.slice e)) (size:Nat) (hz:∀ w,(Go.sizeOf e).run P w=.ok size w) (ga gb:Nat) (oa ob la ca lb cb:Nat) (vJ:ga ≠ gb) (ta tb:TypeId) (xa xb:List Value) (GL:ah w ga ta xa) (JN:ah w gb tb xb) (JO:xb.length ≠ 0) :
  (callFunc f #[F (some ⟨ga,oa,none⟩) la ca,F (some ⟨gb,ob,none⟩) lb cb]).run P w=.ok (.value (.bool false)) w:=by
 rw [run_callFunc_extern hf hname hb JM he,Lib.run_overlaps_apart w tS tR e ht size hz ⟨ga,oa,none⟩ ⟨gb,ob,none⟩ la ca lb cb vJ ta tb _ _ GL.shape JN.shape JO (GL.frozen _) (GL.frozen _)]
 rfl
theorem nX {P:Program} (w:World) {o:Oper} {a:Act} {K:Act→World→Prop} {Q:Exit→Act→World→Prop} (d s:Operand) (t t' : TypeId)
  (ho:o.op=.call { callee:=.builtin .copy,args:=#[d,s],argTypes:=#[t,t'] }) (v u:Value) (hd:a.eval d=v) (hs:a.eval s=u) {v' : Value} {w' : World}
  (hr:(Builtin.copy_ #[t,t'] o.type #[v,u]).run P w=.ok v' w') (h:K (a.put o.dst v') w'):o.wp P a w K Q:=by
 unfold Oper.wp execOp
 simp only [ho,resolve,invoke,builtin,Sem.run_bind,Sem.run_pure,Result.andThen_ok,List.map_toArray,List.map_cons,List.map_nil,hd,hs,hr]
 exact h
theorem mp {P:Program} {w:World} {o:Oper} {a:Act} {K:Act→World→Prop} {Q:Exit→Act→World→Prop} (d s:Operand) (t:TypeId)
  (ho:o.op=.call { callee:=.builtin .copy,args:=#[d,s],argTypes:=#[t,t] }) (e elem:TypeId) (k b ofs dLen dCap:Nat) (A:Addr) (sLen sCap m:Nat) (cs cur:List Value)
  (hd:a.eval d=F (some ⟨b,ofs,none⟩) dLen dCap) (hs:a.eval s=F (some A) sLen sCap)
  (hu:P.underlying t=some (.slice elem)) (hi:(P.info? elem).map (·.size)=some k) (hm:Nat.min sLen dLen=m) (hn:cs.length=m * k)
  (hL:Hid (ah w b e cur)) (zr:Hid (ofs+cs.length≤cur.length)) (yN:Hid (∀ j v,cs[j]?=some v→w.cell? (A.add j)=some v)) (h1:Hid (∀ v ∈ cs,v.oneCell'=true))
  (h:∀ w',Hid (ah w' b e (aY cur ofs cs))→w.grownBy w' (some b)→K (a.put o.dst (goInt m)) w'):o.wp P a w K Q :=
 nX w d s t t ho _ _ hd hs (o4 w t t o.type elem e k b ofs dLen dCap A sLen sCap m cs cur hu hi hm hn hL.out zr.out yN.out h1.out) (h _ (ah.setCells cs ofs w cur hL.out zr.out) (fR cs ofs w (World.grownBy.refl w _)))
theorem da {P:Program} {w:World} {ops:Array Oper} {rest:List Oper} {o:Oper} {a:Act} {Q:Exit→Act→World→Prop} (xX:o.guard=none) (d s:Operand) (t:TypeId)
  (ho:o.op=.call { callee:=.builtin .copy,args:=#[d,s],argTypes:=#[t,t] }) (e elem:TypeId) (k b ofs dLen dCap:Nat) (A:Addr) (sLen sCap m:Nat) (cs cur:List Value)
  (hd:a.eval d=F (some ⟨b,ofs,none⟩) dLen dCap) (hs:a.eval s=F (some A) sLen sCap)
  (hu:P.underlying t=some (.slice elem)) (hi:(P.info? elem).map (·.size)=some k) (hm:Nat.min sLen dLen=m) (hn:cs.length=m * k)
  (hL:Hid (ah w b e cur)) (zr:Hid (ofs+cs.length≤cur.length)) (yN:Hid (∀ j v,cs[j]?=some v→w.cell? (A.add j)=some v)) (h1:Hid (∀ v ∈ cs,v.oneCell'=true))
  (h:∀ w',Hid (ah w' b e (aY cur ofs cs))→w.grownBy w' (some b)→wpList P ops Q rest (a.put o.dst (goInt m)) w'):wpList P ops Q (o :: rest) a w :=
 wpList_plain xX fun _ hK=>mp d s t ho e elem k b ofs dLen dCap A sLen sCap m cs cur hd hs hu hi hm hn hL zr yN h1 fun w' h2 h3=>hK _ _ (h w' h2 h3)
theorem lI {P:Program} {w:World} {ops:Array Oper} {rest:List Oper} {o:Oper} {a:Act} {Q:Exit→Act→World→Prop} (xX:o.guard=none) (d:Operand) (t:TypeId)
  (ho:o.op=.call { callee:=.builtin .clear,args:=#[d],argTypes:=#[t] }) (e el:TypeId) (z:Value) (zs:List Value) (b ofs n c:Nat) (cur:List Value) (hd:a.eval d=F (some ⟨b,ofs,none⟩) n c)
  (ht:P.underlying t=some (.slice e)) (hv:∀ w,(zeroValue e).run P w=.ok z w) (hn:0 < n) (hz:(Builtin.zeroCells z.cells n).toList=zs) (h1:∀ v ∈ zs,v.oneCell'=true)
  (hL:Hid (ah w b el cur)) (zr:Hid (ofs+zs.length≤cur.length))
  (h:∀ w',Hid (ah w' b el (aY cur ofs zs))→w.grownBy w' (some b)→wpList P ops Q rest (a.put o.dst (.tuple #[])) w'):wpList P ops Q (o :: rest) a w:=by
 have hr:=pL (P:=P) w t e o.type z zs ht hv b ofs n c hn hz h1 (fun j hj=>by rw [hL.out.cell,List.getElem?_eq_getElem (by have:=zr.out; omega)]; rfl) (fun j hj=>hL.out.frozen _)
 refine wpList_plain xX fun K hK=>?_
 unfold Oper.wp execOp
 simp only [ho,resolve,invoke,builtin,Sem.run_bind,Sem.run_pure,Result.andThen_ok,List.map_toArray,List.map_cons,List.map_nil,hd,hr]
 exact hK _ _ (h _ (ah.setCells zs ofs w cur hL.out zr.out) (fR zs ofs w (World.grownBy.refl w _)))
theorem ac {w w' : World} {B:Nat} {e:TypeId} {k:Nat} {v:Value} {n:Nat} {xs:List Value} (h:w.ownsRow B e k v n xs) (hb:Below w.heap.size w w'):w'.ownsRow B e k v n xs:=by
 obtain ⟨hl,h0 | ⟨g,cap,cur,hv,hg,hh,h1,h2,h3,h4⟩⟩:=h
 ·exact ⟨hl,.inl h0⟩
 ·have vH:g < w.heap.size:=by
   rcases Nat.lt_or_ge g w.heap.size with vH | we
   ·exact vH
   ·rw [Array.getElem?_eq_none we] at hh; cases hh
  exact ⟨hl,.inr ⟨g,cap,cur,hv,hg,(hb.block g vH).trans hh,h1,h2,h3,h4⟩⟩
theorem bv {w:World} {B:Nat} {e t:TypeId} {k:Nat} {v:Value} {n:Nat} {xs cs:List Value} (h:w.ownsRow B e k v n xs) {g:Nat} (hg:ah w g t cs) (vJ:e ≠ t):some g ≠ v.ownBlock:=by
 obtain ⟨_,⟨rfl,_⟩ | ⟨g',cap,cur,rfl,_,hh,_⟩⟩:=h
 ·simp [Value.ownBlock]
 ·intro he
  simp only [Value.ownBlock,Option.some.injEq] at he
  subst he
  unfold ah at hg
  rw [hg] at hh
  injection hh with hh; injection hh with _ h2; exact vJ h2.symm
theorem ai {w:World} {B B' : Nat} {e:TypeId} {k:Nat} {v:Value} {n:Nat} {xs:List Value} (h:w.ownsRow B e k v n xs) (hB:B'≤B):w.ownsRow B' e k v n xs:=by
 obtain ⟨hl,h0 | ⟨g,cap,cur,hv,hg,hh⟩⟩:=h
 ·exact ⟨hl,.inl h0⟩
 ·exact ⟨hl,.inr ⟨g,cap,cur,hv,jT hB hg,hh⟩⟩
theorem eU {w w' : World} {B B' : Nat} {e e' : TypeId} {k k' : Nat} {v v' : Value} {n n' : Nat} {xs xs' : List Value} (h:w.ownsRow B e k v n xs) (h' : w.ownsRow B' e' k' v' n' xs') (vJ:e' ≠ e) (hg:w.grownBy w' v'.ownBlock):w'.ownsRow B e k v n xs:=by
 refine h.kept hg ?_
 obtain ⟨_,⟨h1,_⟩ | ⟨g,cap,cur,h1,_,hh,_⟩⟩:=h
 ·left; rw [h1]; rfl
 ·right
  rw [h1]
  exact bv h' (g:=g) (t:=e) (cs:=cur.toList) (ah.of hh) vJ
def lenOf:Value→Nat
 | F _ n _=>n
 | _=>0
theorem am {w:World} {B:Nat} {e t:TypeId} {k:Nat} {v:Value} {n:Nat} {xs cs:List Value} (h:w.ownsRow B e k v n xs) {g:Nat} (hg:ah w g t cs) (vJ:e ≠ t) (i:Nat) (u:Value):(w.setCell ⟨g,i,none⟩ u).ownsRow B e k v n xs:=by
 have hf:=bv h hg vJ
 obtain ⟨hl,h0 | ⟨g',cap,cur,hv,hg',hh,h1⟩⟩:=h
 ·exact ⟨hl,.inl h0⟩
 ·refine ⟨hl,.inr ⟨g',cap,cur,hv,hg',(Below.heap_setCell w _ u g' ?_).trans hh,h1⟩⟩
  intro e'
  subst hv
  exact hf (by simp only [Value.ownBlock]; rw [e'])
theorem cd {w:World} {B:Nat} {e:TypeId} {k:Nat} {v:Value} {n:Nat} {xs:List Value} (h:w.ownsRow B e k v n xs) (hn:0 < n):∃ g cap rest,v=F (some ⟨g,0,none⟩) n cap∧B≤g∧ah w g e (xs++rest)∧n≤cap:=by
 obtain ⟨hl,h0 | ⟨g,cap,cur,hv,hg,hh,h1,h2,h3,h4⟩⟩:=h
 ·omega
 ·refine ⟨g,cap,cur.toList.drop (n * k),hv,hg, ?_,h1⟩
  have:xs++cur.toList.drop (n * k)=cur.toList:=by rw [← h4]; exact List.take_append_drop _ _
  rw [this]; exact ah.of hh
theorem mq {w:World} {B g cap:Nat} {e:TypeId} {k n:Nat} {xs:List Value} (h:w.ownsRow B e k (F (some ⟨g,0,none⟩) n cap) n xs) (j:Nat) (u:Value) (hj:j < n * k):(w.setCell ⟨g,j,none⟩ u).ownsRow B e k (F (some ⟨g,0,none⟩) n cap) n (xs.set j u):=by
 obtain ⟨hl,h0 | ⟨g',cap',cur,hv,hg,hh,h1,h2,h3,h4⟩⟩:=h
 ·cases h0.1
 ·injection hv with e1 e2 e3
  injection e1 with e1; injection e1 with e1; subst e1; subst e3
  have hL:=(ah.of hh).set j u
  exact ⟨by rw [List.length_set]; exact hl,.inr ⟨g,cap,(cur.toList.set j u).toArray,rfl,hg,hL,h1,h2,by simp [h3],by show List.take _ (cur.toList.set j u)=_; rw [List.take_set,h4]⟩⟩
theorem ay {w:World} {B:Nat} {e:TypeId} {k:Nat} {A:Option Addr} {n c:Nat} {xs:List Value} (h:w.ownsRow B e k (F A n c) n xs):bn w w.heap.size k A n xs:=by
 obtain ⟨hl,h0 | ⟨g,cap,cur,hv,hg,hh,h1,h2,h3,h4⟩⟩:=h
 ·exact ⟨hl,oM,fun hn=>by omega⟩
 ·injection hv with e1 _ _
  refine ⟨hl,by unfold maxLen at h2; omega,fun hn=>⟨g,0,e1,(ah.of hh).lt,fun j u hu=>?_⟩⟩
  rw [Nat.zero_add,(ah.of hh).cell]
  rw [← h4,List.getElem?_take] at hu
  split at hu
  ·exact hu
  ·cases hu
theorem ak {w w' : World} {B:Nat} {e t:TypeId} {k:Nat} {v:Value} {n:Nat} {xs cs:List Value} (h:w.ownsRow B e k v n xs) {g:Nat} (hL:ah w g t cs) (vJ:e ≠ t) (hg:w.grownBy w' (some g)):w'.ownsRow B e k v n xs :=
 h.kept hg (.inr fun e'=>bv h hL vJ e'.symm)
section
variable {P:Program} {ops:Array Oper} {tm:Array Value} {o:Oper} {a:Act} {w:World} {K:Act→World→Prop} {Q:Exit→Act→World→Prop} {E:Prop}
theorem mW {t e:TypeId} (ht:P.underlying t=some (.slice e)):P.underlying t=some (.slice (P.elem t))∧P.elem t=e:=by
 have:P.elem t=e:=by simp [Program.elem,ht]
 exact ⟨by rw [this]; exact ht,this⟩
theorem bn.take {B k n:Nat} {A:Option Addr} {cs:List Value} (h:bn w B k A n cs) (i:Nat) (hi:i≤n):bn w B k A i (cs.take (i * k)):=by
 have hm:i * k≤n * k:=Nat.mul_le_mul_right k hi
 refine ⟨by rw [List.length_take,h.len]; omega,by have:=h.big; omega,fun h0=>?_⟩
 obtain ⟨b,off,e,hb,hc⟩:=h.at_ oM
 exact ⟨b,off,e,hb,fun j u hu=>hc j u (by rw [List.getElem?_take] at hu; split at hu; exact hu; cases hu)⟩
theorem bn.drop {B k n:Nat} {A A' : Option Addr} {cs:List Value} (h:bn w B k A n cs) (i:Nat) (hi:i≤n) (hA:i < n→A'=A.map fun p=>p.add (i * k)):bn w B k A' (n - i) (cs.drop (i * k)):=by
 refine ⟨by rw [List.length_drop,h.len,Nat.sub_mul],by have:=h.big; omega,fun h0=>?_⟩
 obtain ⟨b,off,e,hb,hc⟩:=h.at_ oM
 refine ⟨b,off+i * k, ?_,hb,fun j u hu=>?_⟩
 ·rw [hA oM,e]; simp only [Option.map_some,df]
 ·rw [List.getElem?_drop] at hu
  have:=hc _ u hu
  rwa [Nat.add_assoc]
theorem oB {e:TypeId} {s:Nat} (hs:(P.info? e).map (·.size)=some s):∃ inf,P.info? e=some inf∧inf.size=s:=by
 cases hq:P.info? e with
 | none=>simp [hq] at hs
 | some inf=>exact ⟨inf,rfl,by simpa [hq] using hs⟩
theorem tP (A:Option Addr):A.map (fun p=>p.add 0)=A:=by cases A <;> simp [Addr.add]
theorem pT {t e:TypeId} (ht:P.underlying t=some (.slice e)) {s:Nat} (hs:(P.info? e).map (·.size)=some s) (A:Option Addr) (n c i:Nat) (hi:i≤n) (hc:n≤c) (w:World) :
  (Instr.slice t (.slice A n c) none (some (.int .i64 (i:Int))) none).run P w=.ok (.slice A i c) w:=by
 obtain ⟨h1,h2⟩:=mW ht
 obtain ⟨inf,wT,wH⟩:=oB hs
 rw [run_slice_h (P:=P) (w:=w) t A n c h1 .i64 (i:Int) oM oM,h2]
 simp [sizeOf,typeInfo,wT,sliced,tP]
theorem n8 {t e:TypeId} (ht:P.underlying t=some (.slice e)) {s:Nat} (hs:(P.info? e).map (·.size)=some s) (A:Option Addr) (n c i:Nat) (hi:i≤n) (w:World) :
  (Instr.slice t (.slice A n c) (some (.int .i64 (i:Int))) none none).run P w=.ok (.slice (if c=i then A else A.map (fun p=>p.add (i * s))) (n - i) (c - i)) w:=by
 obtain ⟨h1,h2⟩:=mW ht
 obtain ⟨inf,wT,wH⟩:=oB hs
 rw [run_slice_l (P:=P) (w:=w) t A n c h1 .i64 (i:Int) oM oM,h2]
 simp [sizeOf,typeInfo,wT,sliced,wH]
theorem lf (hg:o.guard=none) (t e:TypeId) (x y:Operand) (ho:o.op=.slice t x none (some y) none) (ht:P.underlying t=some (.slice e)) (s:Nat) (hs:(P.info? e).map (·.size)=some s)
  (A:Option Addr) (n c i:Nat) (hx:a.eval x=.slice A n c) (hy:a.eval y=.int .i64 (i:Int)) (hi:i≤n) (hc:n≤c)
  (h:K (a.put o.dst (.slice A i c)) w):if Region.wanted o (yielded ops tm)=true then o.wp P a w K Q else E:=by
 have hw:∀ tm:Array Value,Region.wanted o (yielded ops tm)=true:=fun tm=>by simp [Region.wanted,hg]
 rw [if_pos (hw _)]
 unfold Oper.wp execOp
 simp only [ho,hx,Option.map_some,Option.map_none,hy,run_sliceAt_slice (P:=P) (w:=w) t _ _ _ _ (mW ht).1,pT ht hs A n c i hi hc w,Sem.run_bind,Sem.run_pure,Result.andThen_ok]
 exact h
theorem jJ (hg:o.guard=none) (t e:TypeId) (x y:Operand) (ho:o.op=.slice t x (some y) none none) (ht:P.underlying t=some (.slice e)) (s:Nat) (hs:(P.info? e).map (·.size)=some s)
  (A:Option Addr) (n c i:Nat) (hx:a.eval x=.slice A n c) (hy:a.eval y=.int .i64 (i:Int)) (hi:i≤n) (hc:n≤c)
  (h:∀ A',(∀ (W:World) (B:Nat) (cs:List Value),bn W B s A n cs→bn W B s A' (n - i) (cs.drop (i * s)))→K (a.put o.dst (.slice A' (n - i) (c - i))) w):if Region.wanted o (yielded ops tm)=true then o.wp P a w K Q else E:=by
 have hw:∀ tm:Array Value,Region.wanted o (yielded ops tm)=true:=fun tm=>by simp [Region.wanted,hg]
 rw [if_pos (hw _)]
 unfold Oper.wp execOp
 simp only [ho,hx,Option.map_some,Option.map_none,hy,run_sliceAt_slice (P:=P) (w:=w) t _ _ _ _ (mW ht).1,n8 ht hs A n c i hi w,Sem.run_bind,Sem.run_pure,Result.andThen_ok]
 exact h _ fun W B cs hr=>hr.drop i hi fun vH=>by rw [if_neg oM]
theorem iU (hg:o.guard=none) (s x:Operand) (t:TypeId) (ho:o.op=.call { callee:=.builtin .append,args:=#[s,x],argTypes:=#[t,t] })
  (e:TypeId) (z:Value) (k bytes:Nat) (ht:P.underlying t=some (.slice e)) (hinfo:(P.info? e).map (fun i=>(i.zero,i.size,i.bytes))=some (some z,k,bytes)) (xf:z.cells.size=k) (wH:0 < k) (zj:bytes≤1000)
  (B:Nat) (v:Value) (n:Nat) (xs:List Value) (hs:a.eval s=v) (vT:w.ownsRow B e k v n xs)
  (S:Nat) (A:Option Addr) (m c:Nat) (cs:List Value) (hx:a.eval x=.slice A m c) (hr:bn w S k A m cs) (h1:∀ u ∈ cs,u.oneCell'=true)
  (hn:n+m≤1000000000) (hbase:B≤w.heap.size)
  (h:∀ A' c' w',w'.ownsRow B e k (.slice A' (n+m) c') (n+m) (xs++cs)→w.grownBy w' v.ownBlock→Below B w w'→K (a.put o.dst (.slice A' (n+m) c')) w'):if Region.wanted o (yielded ops tm)=true then o.wp P a w K Q else E:=by
 have hw:∀ tm:Array Value,Region.wanted o (yielded ops tm)=true:=fun tm=>by simp [Region.wanted,hg]
 rw [if_pos (hw _)]
 refine tL s x t ho e z k bytes ht hinfo xf wH zj B v n xs hs (jZ vT) S A m c cs hx (jZ hr) h1 hn hbase fun v' w' h2 h3 h4 _=>?_
 obtain ⟨A',c',rfl⟩:=az h2.out
 exact h A' c' w' h2.out h3 h4
theorem iz {B k n:Nat} {e:TypeId} {A:Option Addr} {c:Nat} {xs:List Value} (h:w.ownsRow B e k (.slice A n c) n xs):n≤c:=by
 obtain ⟨_,⟨h0,h1⟩ | ⟨g,cap,cur,hv,_,_,hc,_⟩⟩:=h
 ·injection h0 with _ h2 h3; omega
 ·injection hv with _ _ h3; omega
end
theorem rg {k p:Int} {l:List ae} {i:Nat} (h:i < l.length):aN k p (l.drop i)=if fc k p l[i] then l[i].c else aN k p (l.drop (i+1)):=by
 rw [List.drop_eq_getElem_cons h,aN]
theorem gm (x:aO) (kd pe:Int) (w:World) (h:aP w w.heap.size x) :
  Calls vx 201 #[x.val,O U kd,O U pe] w fun e w'=>e=.returned (O U (aN kd pe x.o))∧Below w.heap.size w w':=by
 have hl:=h.os.big
 have HF:Hid (aN kd pe (x.o.drop 0)=aN kd pe x.o):=rfl
 go_enter Tryz.func201,Tryz.ntmps201
 go_wp2
 have hb0:=bZ w (.cells #[F x.TA x.t.length x.tc,F x.OA x.o.length x.oc,O U x.gt,O U x.sd,O U x.ms] 40)
 have hS:=na.of (x:=x) (ah.new w 40 #[F x.TA x.t.length x.tc,F x.OA x.o.length x.oc,O U x.gt,O U x.sd,O U x.ms])
 have hR:=h.up hb0 nR
 generalize w.alloc (.cells #[F x.TA x.t.length x.tc,F x.OA x.o.length x.oc,O U x.gt,O U x.sd,O U x.ms] 40)=W at hb0 hS hR ⊢
 have c1:=hS.c1
 have xi:=hR.os.el
 go_loopw [7] (fun i wr=>∃ (k:Nat),k≤x.o.length∧i=O U k∧(∃ q:ap W.heap.size W,wr=q.val)∧Hid (aN kd pe (x.o.drop k)=aN kd pe x.o)) (fun i _=>x.o.length - (intOf i).toNat)
 case atStart=>exact ⟨0,Nat.zero_le _,rfl,⟨ap.start _ _,rfl⟩,HF⟩
 case round =>
  obtain ⟨k,hk,rfl,⟨q,rfl⟩,HR⟩:=hrel
  by_cases vH:k < x.o.length
  ·obtain ⟨b,off,hA,hb,hcell⟩:=xi oM
   obtain ⟨e0,e1,e2⟩:=hcell k vH
   have vX:=rg (k:=kd) (p:=pe) vH
   obtain ⟨r,wl⟩ : ∃ r,r=x.o[k]:=⟨_,rfl⟩
   rw [← wl] at e0 e1 e2 vX
   simp only [hA] at c1
   clear wl hcell xi hA
   by_cases hz:r.k=kd
   ·by_cases hy:r.p=pe
    ·have HE:Hid (r.c=aN kd pe x.o):=by rw [if_pos (ee.2 ⟨hz,hy⟩)] at vX; rw [← vX]; exact HR.out
     have hv:(r.k == kd)=true:=by simp [hz]
     have hu:(r.p == pe)=true:=by simp [hy]
     clear vX hz hy
     go_wp2
     go_ret
     exact ⟨by rw [← HE.out]; rfl,hb0.trans (q.below.mono hb0.size)⟩
    ·have HE:Hid (aN kd pe (x.o.drop (k+1))=aN kd pe x.o):=by rw [if_neg (fun hh=>hy (ee.1 hh).2)] at vX; rw [← vX]; exact HR.out
     have hv:(r.k == kd)=true:=by simp [hz]
     have hu:(r.p == pe)=false:=by simp [hy]
     clear vX hz hy
     go_wp2
     go_roundw
     case rel=>exact ⟨k+1,oM,by go_num,⟨q,rfl⟩,HE⟩
     case measure=>simp [intOf]; omega
   ·have HE:Hid (aN kd pe (x.o.drop (k+1))=aN kd pe x.o):=by rw [if_neg (fun hh=>hz (ee.1 hh).1)] at vX; rw [← vX]; exact HR.out
    have hv:(r.k == kd)=false:=by simp [hz]
    clear vX hz
    go_wp2
    go_roundw
    case rel=>exact ⟨k+1,oM,by go_num,⟨q,rfl⟩,HE⟩
    case measure=>simp [intOf]; omega
  ·have HE:Hid (0=aN kd pe x.o):=by
    have h1:=HR.out; rw [List.drop_eq_nil_of_le oM] at h1; exact h1
   go_wp2
   go_ret
   exact ⟨by rw [← HE.out]; rfl,hb0.trans (q.below.mono hb0.size)⟩
abbrev aO.copy (x:aO) (g1 g2:Nat):aO:={ x with TA:=some ⟨g1,0,none⟩,tc:=x.t.length,OA:=some ⟨g2,0,none⟩,oc:=x.o.length }
theorem rh {x:aO} {w:World} {g1 g2:Nat} (h1:ah w g1 104 (x.t.flatMap aq.enc)) (h2:ah w g2 147 (x.o.flatMap ae.enc)) (hn:x.t.length≤1048576) (hm:x.o.length≤1048576):aP w w.heap.size (x.copy g1 g2) :=
 ⟨qU h1 (show x.t.length≤9223372036854775807 by omega),oW h2 (show x.o.length≤9223372036854775807 by omega)⟩
end Go.Proofs.YtoeoimhemojdeaaGreatDoor
