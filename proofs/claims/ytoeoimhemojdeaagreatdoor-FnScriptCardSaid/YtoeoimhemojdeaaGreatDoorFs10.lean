/- Lemmas. -/
import Derived.OwnWalk
import Derived.Maps.AppendAt
import Derived.Lib.Overlaps
import Derived.Lib.SliceRun
import Derived.Laws.IdiomCopy
import Derived.Deep.RegionLaw
import Derived.Laws.Externs
import Derived.Lib.AppendZerosOnto
import Derived.Laws.OwnMore
import Derived.Deep.RegionHeld3
import Derived.Test.YtoeoimhemojdeaaGreatDoorFs09

set_option linter.unusedVariables false
set_option linter.unusedSimpArgs false
set_option maxHeartbeats 8000000
open Go.Value renaming int → O, slice → F, string → wG
open Go.IntKind renaming i64 → U
open Go.Proofs.Tryz renaming prog → wH

namespace Go.Proofs.YtoeoimhemojdeaaGreatDoor
open Go.RowKit
theorem bc (x:aO) (g:Nat) (w:World) (h:cw w w.heap.size g x) :
  Calls wH 67 #[.pointer (some ⟨g,0,none⟩)] w fun e w'=>e=.returned (.bool (ao x))∧Below w.heap.size w w':=by
 cases hv:(fp x && iW x)
 ·exact mf x g w h hv
 ·exact lA x g w h hv
theorem il {x:aO} {w:World} (h:aQ w w.heap.size x) (t:TypeId):cw (w.alloc (.cells #[F x.TA x.t.length x.tc,F x.OA x.o.length x.oc,O U x.gt,O U x.sd,O U x.ms] t)) (w.alloc (.cells #[F x.TA x.t.length x.tc,F x.OA x.o.length x.oc,O U x.gt,O U x.sd,O U x.ms] t)).heap.size w.heap.size x :=
 cw.of (x:=x) (ai.new w t #[F x.TA x.t.length x.tc,F x.OA x.o.length x.oc,O U x.gt,O U x.sd,O U x.ms]) (h.up (bZ w _) nR)
def uI (g:Bool) (v:Int):Int:=if g then v else 0
theorem jd (x:aO) (w:World) (h:aQ w w.heap.size x):Calls wH 136 #[x.val] w fun e w'=>e=.returned (.tuple #[O U (uI (ao x) (cJ x.t)),.bool (ao x)])∧Below w.heap.size w w':=by
 have b1:=bZ w (.cells #[F x.TA x.t.length x.tc,F x.OA x.o.length x.oc,O U x.gt,O U x.sd,O U x.ms] 40)
 have hA:=il h 40
 have cG:=fun W hW=>er x W hW
 cases hg:ao x
 ·rw [hg] at cG
  clear hg
  go_enter Tryz.func136,Tryz.ntmps136
  go_wp2_with fail
  generalize w.alloc (.cells #[F x.TA x.t.length x.tc,F x.OA x.o.length x.oc,O U x.gt,O U x.sd,O U x.ms] 40)=W at b1 hA ⊢
  refine (cG _ hA.r).mono ?_
  rintro e w1 ⟨rfl,hb⟩
  go_wp2
  go_ret2
  exact ⟨rfl,av b1 hb⟩
 ·rw [hg] at cG
  have G:=br.1 hg
  have cM:=fun W hW=>ka x W hW G.tl G.ol G.tall G.oall
  clear hg G
  go_enter Tryz.func136,Tryz.ntmps136
  go_wp2_with fail
  generalize w.alloc (.cells #[F x.TA x.t.length x.tc,F x.OA x.o.length x.oc,O U x.gt,O U x.sd,O U x.ms] 40)=W at b1 hA ⊢
  obtain ⟨p0,p1,p2,p3,p4⟩:=hA.s
  refine (aY (cG _ hA.r)).mono ?_
  rintro e w1 ⟨rfl,q1,rfl⟩
  go_wp2_with fail
  refine (aC nR (cM _ (hA.r.at q1))).mono ?_
  rintro e w2 ⟨rfl,q2,rfl⟩
  go_wp2
  go_ret2
  exact ⟨rfl,b1.trans (q2.below.mono b1.size)⟩
theorem lB (x:aO) (w:World) (h:aQ w w.heap.size x):Calls wH 138 #[x.val] w fun e w'=>e=.returned (.tuple #[O U (uI (ao x) (aW dp x.o)),.bool (ao x)])∧Below w.heap.size w w':=by
 have b1:=bZ w (.cells #[F x.TA x.t.length x.tc,F x.OA x.o.length x.oc,O U x.gt,O U x.sd,O U x.ms] 40)
 have hA:=il h 40
 have cG:=fun W hW=>er x W hW
 cases hg:ao x
 ·rw [hg] at cG
  clear hg
  go_enter Tryz.func138,Tryz.ntmps138
  go_wp2_with fail
  generalize w.alloc (.cells #[F x.TA x.t.length x.tc,F x.OA x.o.length x.oc,O U x.gt,O U x.sd,O U x.ms] 40)=W at b1 hA ⊢
  refine (cG _ hA.r).mono ?_
  rintro e w1 ⟨rfl,hb⟩
  go_wp2
  go_ret2
  exact ⟨rfl,av b1 hb⟩
 ·rw [hg] at cG
  have G:=br.1 hg
  have cM:=fun W hW=>ka x W hW G.tl G.ol G.tall G.oall
  clear hg G
  go_enter Tryz.func138,Tryz.ntmps138
  go_wp2_with fail
  generalize w.alloc (.cells #[F x.TA x.t.length x.tc,F x.OA x.o.length x.oc,O U x.gt,O U x.sd,O U x.ms] 40)=W at b1 hA ⊢
  obtain ⟨p0,p1,p2,p3,p4⟩:=hA.s
  refine (aY (cG _ hA.r)).mono ?_
  rintro e w1 ⟨rfl,q1,rfl⟩
  go_wp2_with fail
  refine (aC nR (cM _ (hA.r.at q1))).mono ?_
  rintro e w2 ⟨rfl,q2,rfl⟩
  go_wp2
  go_ret2
  exact ⟨rfl,b1.trans (q2.below.mono b1.size)⟩
theorem mg (w:World) (vs:Array Value) (t:TypeId):∀ j u,vs.toList[j]?=some u→(w.alloc (.cells vs t)).cell? ((⟨w.heap.size,0,none⟩ : Addr).add j)=some u:=by
 intro j u hj
 have e:((⟨w.heap.size,0,none⟩ : Addr).add j)=⟨w.heap.size,j,none⟩:=by unfold Addr.add; by_cases h:j=0 <;> simp [h]
 rw [e,(ai.new w t vs).cell]; exact hj
theorem lC {w w' : World} {B:Nat} {e:TypeId} {k:Nat} {v:Value} {n:Nat} {xs:List Value} (h:w'.heap=w.heap) (ho:w.ownsRow B e k v n xs):w'.ownsRow B e k v n xs:=by
 unfold World.ownsRow at *; rw [h]; exact ho
theorem cF {P:Program} {ops:Array Oper} {rest:List Oper} {o:Oper} {a:Act} {w0 wA:World} {Q:Exit→Act→World→Prop} (yF:o.guard=none) (s x:Operand) (t:TypeId)
  (ho:o.op=.call { callee:=.builtin .append,args:=#[s,x],argTypes:=#[t,t] })
  (e:TypeId) (z:Value) (k bytes:Nat) (ht:P.underlying t=some (.slice e)) (hinfo:(P.info? e).map (fun i=>(i.zero,i.size,i.bytes))=some (some z,k,bytes)) (yh:z.cells.size=k) (xQ:0 < k) (Au:bytes≤1000)
  (B:Nat) (v:Value) (n:Nat) (xs:List Value) (hs:a.eval s=v) (xg:Hid (w0.ownsRow B e k v n xs))
  (vs:Array Value) (c g:Nat) (hx:a.eval x=F (some ⟨g,0,none⟩) 1 c) (hg:w0.heap.size=g) (Aj:vs.size=k) (h1:vs.all (·.oneCell')=true) (hn:n < 1000000000) (hbase:B≤w0.heap.size)
  (hheap:wA.heap=(w0.alloc (.cells vs e)).heap) (DK:wA.os=w0.os) (htape:wA.tape=w0.tape) (BZ:wA.output=w0.output)
  (h:∀ v' w',Hid (w'.ownsRow B e k v' (n+1) (xs++vs.toList))→w0.grownBy w' v.ownBlock→Below B w0 w'→wpList P ops Q rest (a.put o.dst v') w'):wpList P ops Q (o :: rest) a wA:=by
 subst hg
 obtain ⟨i,hi,hz,hs',hb⟩:=info_parts hinfo
 have hown':=xg.out
 have hsize:wA.heap.size=w0.heap.size+1:=by rw [hheap]; exact Array.size_push _
 have hblock:∀ j,j < w0.heap.size→wA.heap[j]?=w0.heap[j]?:=fun j hj=>by rw [hheap]; exact Below.heap_alloc w0 _ j hj
 have h4:w0.grownBy wA v.ownBlock:=⟨DK,htape,BZ,oM,fun j hj _=>hblock j hj⟩
 refine wpList_append_own (w:=wA) yF s x t ho B e i z k bytes ht hi hz hs' hb yh xQ v n xs hs (lC hheap (hown'.alloc _)) ⟨w0.heap.size,0,none⟩ 1 c vs.toList hx (by simp [Aj]) ?_ (fun u hu=>(Array.all_eq_true_iff_forall_mem.1 h1) u (by simpa using hu)) (by unfold maxLen; omega) ?_ oM fun v' w' h2 h3 _=>h v' w' h2 ?_ ?_
 ·intro j u hj
  have:=mg w0 vs e j u hj
  rw [← this]; exact World.cell?_of_block (by rw [hheap])
 ·have:=Nat.mul_le_mul (show n+1≤1000000000 by omega) Au
  omega
 ·exact ⟨h3.os.trans h4.os,h3.tape.trans h4.tape,h3.output.trans h4.output,jT h4.size h3.size,fun j hj wT=>(h3.block j (jL hj h4.size) wT).trans (h4.block j hj wT)⟩
 ·exact ((Below.refl B w0).grown h4 hbase (fun j hj=>(hown'.lt j hj).1)).grown h3 oM (fun j hj=>(hown'.lt j hj).1)
theorem az {w:World} {B:Nat} {e:TypeId} {k:Nat} {v:Value} {n:Nat} {xs:List Value} (h:w.ownsRow B e k v n xs):∃ A c,v=F A n c:=by
 obtain ⟨_,⟨rfl,rfl⟩ | ⟨g,cap,_,rfl,_⟩⟩:=h
 ·exact ⟨_,_,rfl⟩
 ·exact ⟨_,_,rfl⟩
theorem iJ {P:Program} (w:World) (base:Nat) (t ty e:TypeId) (i:TypeInfo) (size:Nat) (ht:P.underlying t=some (.slice e)) (hi:P.info? e=some i)
  (v:Value) (n:Nat) (xs:List Value) (xg:w.ownsRow base e size v n xs) (c:Nat):(Builtin.append_ #[t,t] ty #[v,F none 0 c]).run P w=.ok v w:=by
 obtain ⟨_,⟨rfl,rfl⟩ | ⟨g,cap,cur,rfl,_,_,wX,_⟩⟩:=xg
 ·simp [Builtin.append_,run_underlying ht,sizeOf,typeInfo,hi,Builtin.lenOf,Builtin.firstCells]
 ·simp [Builtin.append_,run_underlying ht,sizeOf,typeInfo,hi,Builtin.lenOf,Builtin.firstCells,wX,storeCells]
theorem cR (b o j:Nat):((⟨b,o,none⟩ : Addr).add j)=⟨b,o+j,none⟩:=by unfold Addr.add; by_cases h:j=0 <;> simp [h]
theorem uJ {P:Program} {o:Oper} {a:Act} {w:World} {K:Act→World→Prop} {Q:Exit→Act→World→Prop} (s x:Operand) (t:TypeId)
  (ho:o.op=.call { callee:=.builtin .append,args:=#[s,x],argTypes:=#[t,t] })
  (e:TypeId) (z:Value) (k bytes:Nat) (ht:P.underlying t=some (.slice e)) (hinfo:(P.info? e).map (fun i=>(i.zero,i.size,i.bytes))=some (some z,k,bytes)) (yh:z.cells.size=k) (xQ:0 < k) (Au:bytes≤1000)
  (B:Nat) (v:Value) (n:Nat) (xs:List Value) (hs:a.eval s=v) (xg:Hid (w.ownsRow B e k v n xs))
  (S:Nat) (A:Option Addr) (m c:Nat) (cs:List Value) (hx:a.eval x=F A m c) (hr:Hid (bm w S k A m cs)) (h1:∀ u ∈ cs,u.oneCell'=true)
  (hn:n+m≤1000000000) (hbase:B≤w.heap.size)
  (h:∀ v' w',Hid (w'.ownsRow B e k v' (n+m) (xs++cs))→w.grownBy w' v.ownBlock→Below B w w'→(v'.ownBlock=v.ownBlock ∨ v'.ownBlock=some w.heap.size)→K (a.put o.dst v') w'):o.wp P a w K Q:=by
 obtain ⟨i,hi,hz,hs',hb⟩:=info_parts hinfo
 have hbytes:(n+m) * bytes≤140737488355328:=by have:=Nat.mul_le_mul hn Au; omega
 have fin:∀ v' w',(Builtin.append_ #[t,t] o.type #[v,F A m c]).run P w=.ok v' w'→w'.ownsRow B e k v' (n+m) (xs++cs)→w.grownBy w' v.ownBlock→(v'.ownBlock=v.ownBlock ∨ v'.ownBlock=some w.heap.size)→o.wp P a w K Q:=by
  intro v' w' xz h2 h3 h4
  unfold Oper.wp execOp
  simp only [ho,resolve,invoke,builtin,Sem.run_bind,Sem.run_pure,Result.andThen_ok,List.map_toArray,List.map_cons,List.map_nil,hs,hx,xz]
  exact h v' w' h2 h3 ((Below.refl B w).grown h3 hbase (fun j hj=>(xg.out.lt j hj).1)) h4
 rcases Nat.eq_zero_or_pos m with h0 | h0
 ·subst h0
  have hc0:cs = []:=List.eq_nil_of_length_eq_zero (by simpa using hr.out.len)
  subst hc0
  rcases A with _ | ad
  ·exact fin v w (iJ w B t o.type e i k ht hi v n xs xg.out c) (by simpa using xg.out) (World.grownBy.refl w _) (.inl rfl)
  ·obtain ⟨v',w',xz,h2,h3,_,h5⟩:=run_append_own_at (P:=P) w B t o.type e i z k bytes ht hi hz hs' hb yh xQ v n xs xg.out ad 0 c [] sP sP sP (by unfold maxLen; omega) hbytes hbase
   exact fin v' w' xz h2 h3 h5
 ·obtain ⟨b,off,rfl,wQ,hcell⟩:=hr.out.at_ h0
  obtain ⟨v',w',xz,h2,h3,_,h5⟩:=run_append_own_at (P:=P) w B t o.type e i z k bytes ht hi hz hs' hb yh xQ v n xs xg.out ⟨b,off,none⟩ m c cs hr.out.len (fun j u hu=>by rw [cR]; exact hcell j u hu) h1 (by unfold maxLen; omega) hbytes hbase
  exact fin v' w' xz h2 h3 h5
theorem im {P:Program} {ops:Array Oper} {rest:List Oper} {o:Oper} {a:Act} {w:World} {Q:Exit→Act→World→Prop} (yF:o.guard=none) (s x:Operand) (t:TypeId)
  (ho:o.op=.call { callee:=.builtin .append,args:=#[s,x],argTypes:=#[t,t] })
  (e:TypeId) (z:Value) (k bytes:Nat) (ht:P.underlying t=some (.slice e)) (hinfo:(P.info? e).map (fun i=>(i.zero,i.size,i.bytes))=some (some z,k,bytes)) (yh:z.cells.size=k) (xQ:0 < k) (Au:bytes≤1000)
  (B:Nat) (v:Value) (n:Nat) (xs:List Value) (hs:a.eval s=v) (xg:Hid (w.ownsRow B e k v n xs))
  (S:Nat) (A:Option Addr) (m c:Nat) (cs:List Value) (hx:a.eval x=F A m c) (hr:Hid (bm w S k A m cs)) (h1:∀ u ∈ cs,u.oneCell'=true)
  (hn:n+m≤1000000000) (hbase:B≤w.heap.size)
  (h:∀ v' w',Hid (w'.ownsRow B e k v' (n+m) (xs++cs))→w.grownBy w' v.ownBlock→Below B w w'→(v'.ownBlock=v.ownBlock ∨ v'.ownBlock=some w.heap.size)→wpList P ops Q rest (a.put o.dst v') w'):wpList P ops Q (o :: rest) a w :=
 wpList_plain yF fun _ hK=>uJ s x t ho e z k bytes ht hinfo yh xQ Au B v n xs hs xg S A m c cs hx hr h1 hn hbase fun v' w' h2 h3 h4 h5=>hK _ _ (h v' w' h2 h3 h4 h5)
theorem dw {w:World} {B g:Nat} {e:TypeId} {k:Nat} (h:ai w g e []) (hB:B≤g):w.ownsRow B e k (F (some ⟨g,0,none⟩) 0 0) 0 []:=h.own hB sP (by unfold maxLen; omega)
theorem ai.setCells {g:Nat} {t:TypeId} : ∀ (vs:List Value) (o:Nat) (w:World) (cs:List Value),ai w g t cs→o+vs.length≤cs.length→ai (w.setCells g o vs) g t (aZ cs o vs)
 | [],o,w,cs,h,_=>by simpa [World.setCells,aZ] using h
 | v :: r,o,w,cs,h,hl=>by
  rw [World.setCells]
  have h2:=ai.setCells r (o+1) (w.setCell ⟨g,o,none⟩ v) (cs.set o v) (h.set o v) (by simp at hl ⊢; omega)
  have e:aZ (cs.set o v) (o+1) r=aZ cs o (v :: r):=by
   unfold aZ
   have wQ:o < cs.length:=by simp at hl; omega
   have e1:(cs.set o v).take (o+1)=cs.take o++[v]:=by
    rw [List.take_set,List.take_succ_eq_append_getElem wQ,List.set_append_right _ _ (by rw [List.length_take]; omega)]
    rw [List.length_take,Nat.min_eq_left oM,Nat.sub_self]; rfl
   have e2:(cs.set o v).drop (o+1+r.length)=cs.drop (o+(v :: r).length):=by
    rw [List.drop_set_of_lt oM]; congr 1; simp; omega
   rw [e1,e2]; simp
  rw [e] at h2; exact h2
theorem f8 {a:World} {g:Nat} : ∀ (vs:List Value) (o:Nat) (w:World),a.grownBy w (some g)→a.grownBy (w.setCells g o vs) (some g)
 | [],_,_,h=>h
 | v :: r,o,w,h=>by
  rw [World.setCells]
  have hs:a.grownBy (w.setCell ⟨g,o,none⟩ v) (some g) :=
   ⟨h.os,h.tape,h.output,by have:=h.size; simpa [World.setCell] using this,fun k hk wT=>(Below.heap_setCell w ⟨g,o,none⟩ v k (fun e=>wT (by rw [e]))).trans (h.block k hk wT)⟩
  exact f8 r (o+1) _ hs
theorem ai.drew {w:World} {g:Nat} {t:TypeId} {cs:List Value} (h:ai w g t cs):ai w.drew g t cs:=h
theorem rU {P:Program} (w:World) (dT sT ty elem:TypeId) (k b o dLen dCap:Nat) (a:Addr) (sLen sCap:Nat) (cs:List Value)
  (hu:P.underlying dT=some (.slice elem)) (hs:(P.info? elem).map (·.size)=some k) (hn:cs.length=Nat.min sLen dLen * k)
  (zX:∀ j v,cs[j]?=some v→w.cell? (a.add j)=some v) (hc:∀ j,j < cs.length→(w.cell? ⟨b,o+j,none⟩).isSome=true) (hf:∀ j,j < cs.length→w.frozen? ⟨b,o+j,none⟩=false) (h1:∀ v ∈ cs,v.oneCell'=true) :
  (Builtin.copy_ #[dT,sT] ty #[F (some ⟨b,o,none⟩) dLen dCap,F (some a) sLen sCap]).run P w=.ok (goInt (Nat.min sLen dLen)) (w.setCells b o cs):=by
 have xl:=run_storeCells_cells (P:=P) b o cs 0 w (by simpa using hc) (by simpa using hf) h1
 cases hq:P.info? elem with
 | none=>simp [hq] at hs
 | some i =>
  have hi:i.size=k:=by simpa [hq] using hs
  have LZ:=run_firstCells_some (P:=P) w k (Nat.min sLen dLen) a sLen sCap cs hn zX
  simp [Builtin.copy_,run_underlying hu,Builtin.lenOf,sizeOf,typeInfo,hq,hi,LZ,xl]
theorem pM {P:Program} (w:World) (dT sT ty elem e:TypeId) (k b o dLen dCap:Nat) (a:Addr) (sLen sCap m:Nat) (cs cur:List Value)
  (hu:P.underlying dT=some (.slice elem)) (hs:(P.info? elem).map (·.size)=some k) (hm:Nat.min sLen dLen=m) (hn:cs.length=m * k)
  (hL:ai w b e cur) (AB:o+cs.length≤cur.length) (zX:∀ j v,cs[j]?=some v→w.cell? (a.add j)=some v) (h1:∀ v ∈ cs,v.oneCell'=true) :
  (Builtin.copy_ #[dT,sT] ty #[F (some ⟨b,o,none⟩) dLen dCap,F (some a) sLen sCap]).run P w=.ok (goInt m) (w.setCells b o cs):=by
 subst hm
 exact rU w dT sT ty elem k b o dLen dCap a sLen sCap cs hu hs hn zX (fun j hj=>by rw [hL.cell,List.getElem?_eq_getElem oM]; rfl) (fun j hj=>hL.frozen _) h1
theorem qy {P:Program} (w:World) (t e ty:TypeId) (z:Value) (zs:List Value) (ht:P.underlying t=some (.slice e)) (hv:∀ w,(zeroValue e).run P w=.ok z w) (b o n c:Nat) (hn:0 < n) (hz:(Builtin.zeroCells z.cells n).toList=zs) (h1:∀ v ∈ zs,v.oneCell'=true)
  (hc:∀ j,j < zs.length→(w.cell? ⟨b,o+j,none⟩).isSome=true) (hf:∀ j,j < zs.length→w.frozen? ⟨b,o+j,none⟩=false) :
  (Builtin.clear_ #[t] ty #[F (some ⟨b,o,none⟩) n c]).run P w=.ok (.tuple #[]) (w.setCells b o zs):=by
 have xl:=run_storeCells_cells (P:=P) b o zs 0 w (by simpa using hc) (by simpa using hf) h1
 simp only [Nat.add_zero] at xl
 obtain ⟨m,rfl⟩ : ∃ m,n=m+1:=⟨n - 1,oM⟩
 simp [Builtin.clear_,run_underlying ht,hv,hz,xl]
theorem kS (cur xs x:List Value) (i k n:Nat) (hx:x.length=k) (BJ:xs.length=n * k) (hi:i≤n) (xO:cur.take (n * k)=xs) (hroom:(n+1) * k≤cur.length) :
  (aZ (aZ cur (i * k+k) (xs.drop (i * k))) (i * k) x).take ((n+1) * k)=xs.take (i * k)++x++xs.drop (i * k):=by
 have zj:i * k≤n * k:=Nat.mul_le_mul_right k hi
 have zv:(n+1) * k=n * k+k:=Nat.succ_mul n k
 rw [zv] at hroom ⊢
 have EB:n * k≤cur.length:=oM
 have et:(cur.take (i * k))=xs.take (i * k):=by rw [← xO,List.take_take,Nat.min_eq_left zj]
 have hd:(xs.drop (i * k)).length=n * k - i * k:=by rw [List.length_drop,BJ]
 have e1:aZ cur (i * k+k) (xs.drop (i * k))=cur.take (i * k+k)++xs.drop (i * k)++cur.drop (n * k+k):=by
  unfold aZ; rw [hd]; congr 2; omega
 have l1:(cur.take (i * k+k)).length=i * k+k:=by rw [List.length_take]; omega
 rw [e1]
 unfold aZ
 have e2:(cur.take (i * k+k)++xs.drop (i * k)++cur.drop (n * k+k)).take (i * k)=xs.take (i * k):=by
  rw [List.append_assoc,List.take_append_of_le_length oM,List.take_take,Nat.min_eq_left oM,et]
 have e3:(cur.take (i * k+k)++xs.drop (i * k)++cur.drop (n * k+k)).drop (i * k+x.length)=xs.drop (i * k)++cur.drop (n * k+k):=by
  rw [hx,List.append_assoc,List.drop_append_of_le_length oM,List.drop_of_length_le oM,List.nil_append]
 rw [e2,e3,← List.append_assoc]
 have l2:(xs.take (i * k)++x++xs.drop (i * k)).length=n * k+k:=by
  rw [List.length_append,List.length_append,List.length_take,hd,BJ,hx]; omega
 rw [List.take_append_of_le_length oM,List.take_of_length_le oM]
theorem bY (cs vs:List Value) (o:Nat) (h:o+vs.length≤cs.length):(aZ cs o vs).length=cs.length:=by
 unfold aZ; simp; omega
theorem oQ (cur xs zs:List Value) (i k n:Nat) (hz:zs.length=k) (BJ:xs.length=n * k) (hi:i < n) (xO:cur.take (n * k)=xs) (hl:n * k≤cur.length) :
  (aZ (aZ cur (i * k) (xs.drop (i * k+k))) ((n - 1) * k) zs).take ((n - 1) * k)=xs.take (i * k)++xs.drop (i * k+k):=by
 have zj:i * k+k≤n * k:=by rw [← Nat.succ_mul]; exact Nat.mul_le_mul_right k hi
 have zv:(n - 1) * k+k=n * k:=by rw [← Nat.succ_mul]; congr 1; omega
 have et:(cur.take (i * k))=xs.take (i * k):=by rw [← xO,List.take_take,Nat.min_eq_left oM]
 have hd:(xs.drop (i * k+k)).length=n * k - (i * k+k):=by rw [List.length_drop,BJ]
 have l1:(xs.take (i * k)++xs.drop (i * k+k)).length=(n - 1) * k:=by rw [List.length_append,List.length_take,hd,BJ]; omega
 have e1:(aZ cur (i * k) (xs.drop (i * k+k))).take ((n - 1) * k)=xs.take (i * k)++xs.drop (i * k+k):=by
  unfold aZ; rw [et,List.take_append_of_le_length oM,List.take_of_length_le oM]
 have l2:(aZ cur (i * k) (xs.drop (i * k+k))).length=cur.length:=bY _ _ _ (by rw [hd]; omega)
 have e2:(aZ (aZ cur (i * k) (xs.drop (i * k+k))) ((n - 1) * k) zs)=(aZ cur (i * k) (xs.drop (i * k+k))).take ((n - 1) * k)++(zs++(aZ cur (i * k) (xs.drop (i * k+k))).drop ((n - 1) * k+zs.length)):=by
  rw [aZ,List.append_assoc]
 rw [e2,List.take_append_of_le_length (by rw [List.length_take]; omega),List.take_take,Nat.min_self,e1]
theorem mP (xs x Z:List Value) (i k n:Nat) (hx:x.length=k) (BJ:xs.length=n * k) (hi:i≤n) (hZ:(n+1) * k≤i * k+Z.length) :
  (aZ (aZ (xs.take (i * k)++Z) (i * k) x) ((i+1) * k) (xs.drop (i * k))).take ((n+1) * k)=xs.take (i * k)++x++xs.drop (i * k):=by
 have zj:i * k≤n * k:=Nat.mul_le_mul_right k hi
 have zv:(n+1) * k=n * k+k:=Nat.succ_mul n k
 have Hv:(i+1) * k=i * k+k:=Nat.succ_mul i k
 rw [zv] at hZ ⊢
 rw [Hv]
 have lt:(xs.take (i * k)).length=i * k:=by rw [List.length_take]; omega
 have ld:(xs.drop (i * k)).length=n * k - i * k:=by rw [List.length_drop,BJ]
 have e1:aZ (xs.take (i * k)++Z) (i * k) x=xs.take (i * k)++x++Z.drop k:=by
  unfold aZ
  rw [List.take_append_of_le_length oM,List.take_of_length_le oM,List.drop_append,List.drop_eq_nil_of_le oM,lt,hx,List.nil_append]
  congr 2; omega
 have l1:(xs.take (i * k)++x).length=i * k+k:=by rw [List.length_append,lt,hx]
 rw [e1]
 unfold aZ
 have e2:(xs.take (i * k)++x++Z.drop k).take (i * k+k)=xs.take (i * k)++x:=by
  rw [List.take_append_of_le_length oM,List.take_of_length_le oM]
 rw [e2]
 have l2:(xs.take (i * k)++x++xs.drop (i * k)).length=n * k+k:=by rw [List.length_append,l1,ld]; omega
 rw [List.take_append_of_le_length oM,List.take_of_length_le oM]
theorem ai.shape {w:World} {g:Nat} {t:TypeId} {cs:List Value} (h:ai w g t cs):w.shape? g=some (t,cs.length):=by
 unfold ai at h; simp [World.shape?,h]
theorem je {P : Program} (w : World) (f : FuncId) (fn : Func) (tS tR e : TypeId) (hf : P.funcs[f]? = some fn) (hname : (fn.name == "runtime.NumGoroutine") = false) (hb : fn.body.isNone = true) (Ma : Extern.findNext fn = none) (he : Extern.find fn = some (Extern.SlicesOverlaps.overlaps #[tS, tS] #[tR]))
  (ht:P.underlying tS=some (.slice e)) (size:Nat) (hz:∀ w,(Go.sizeOf e).run P w=.ok size w) (ga gb:Nat) (oa ob la ca lb cb:Nat) (wT:ga ≠ gb) (ta tb:TypeId) (xa xb:List Value) (IS:ai w ga ta xa) (Mb:ai w gb tb xb) (Mc:xb.length ≠ 0) :
  (callFunc f #[F (some ⟨ga,oa,none⟩) la ca,F (some ⟨gb,ob,none⟩) lb cb]).run P w=.ok (.value (.bool false)) w:=by
 rw [run_callFunc_extern hf hname hb Ma he,Lib.run_overlaps_apart w tS tR e ht size hz ⟨ga,oa,none⟩ ⟨gb,ob,none⟩ la ca lb cb wT ta tb _ _ IS.shape Mb.shape Mc (IS.frozen _) (IS.frozen _)]
 rfl
theorem oS {P:Program} (w:World) {o:Oper} {a:Act} {K:Act→World→Prop} {Q:Exit→Act→World→Prop} (d s:Operand) (t t' : TypeId)
  (ho:o.op=.call { callee:=.builtin .copy,args:=#[d,s],argTypes:=#[t,t'] }) (v u:Value) (hd:a.eval d=v) (hs:a.eval s=u) {v' : Value} {w' : World}
  (hr:(Builtin.copy_ #[t,t'] o.type #[v,u]).run P w=.ok v' w') (h:K (a.put o.dst v') w'):o.wp P a w K Q:=by
 unfold Oper.wp execOp
 simp only [ho,resolve,invoke,builtin,Sem.run_bind,Sem.run_pure,Result.andThen_ok,List.map_toArray,List.map_cons,List.map_nil,hd,hs,hr]
 exact h
theorem mQ {P:Program} {w:World} {o:Oper} {a:Act} {K:Act→World→Prop} {Q:Exit→Act→World→Prop} (d s:Operand) (t:TypeId)
  (ho:o.op=.call { callee:=.builtin .copy,args:=#[d,s],argTypes:=#[t,t] }) (e elem:TypeId) (k b ofs dLen dCap:Nat) (A:Addr) (sLen sCap m:Nat) (cs cur:List Value)
  (hd:a.eval d=F (some ⟨b,ofs,none⟩) dLen dCap) (hs:a.eval s=F (some A) sLen sCap)
  (hu:P.underlying t=some (.slice elem)) (hi:(P.info? elem).map (·.size)=some k) (hm:Nat.min sLen dLen=m) (hn:cs.length=m * k)
  (hL:Hid (ai w b e cur)) (AB:Hid (ofs+cs.length≤cur.length)) (zX:Hid (∀ j v,cs[j]?=some v→w.cell? (A.add j)=some v)) (h1:Hid (∀ v ∈ cs,v.oneCell'=true))
  (h:∀ w',Hid (ai w' b e (aZ cur ofs cs))→w.grownBy w' (some b)→K (a.put o.dst (goInt m)) w'):o.wp P a w K Q :=
 oS w d s t t ho _ _ hd hs (pM w t t o.type elem e k b ofs dLen dCap A sLen sCap m cs cur hu hi hm hn hL.out AB.out zX.out h1.out) (h _ (ai.setCells cs ofs w cur hL.out AB.out) (f8 cs ofs w (World.grownBy.refl w _)))
theorem dj {P:Program} {w:World} {ops:Array Oper} {rest:List Oper} {o:Oper} {a:Act} {Q:Exit→Act→World→Prop} (yF:o.guard=none) (d s:Operand) (t:TypeId)
  (ho:o.op=.call { callee:=.builtin .copy,args:=#[d,s],argTypes:=#[t,t] }) (e elem:TypeId) (k b ofs dLen dCap:Nat) (A:Addr) (sLen sCap m:Nat) (cs cur:List Value)
  (hd:a.eval d=F (some ⟨b,ofs,none⟩) dLen dCap) (hs:a.eval s=F (some A) sLen sCap)
  (hu:P.underlying t=some (.slice elem)) (hi:(P.info? elem).map (·.size)=some k) (hm:Nat.min sLen dLen=m) (hn:cs.length=m * k)
  (hL:Hid (ai w b e cur)) (AB:Hid (ofs+cs.length≤cur.length)) (zX:Hid (∀ j v,cs[j]?=some v→w.cell? (A.add j)=some v)) (h1:Hid (∀ v ∈ cs,v.oneCell'=true))
  (h:∀ w',Hid (ai w' b e (aZ cur ofs cs))→w.grownBy w' (some b)→wpList P ops Q rest (a.put o.dst (goInt m)) w'):wpList P ops Q (o :: rest) a w :=
 wpList_plain yF fun _ hK=>mQ d s t ho e elem k b ofs dLen dCap A sLen sCap m cs cur hd hs hu hi hm hn hL AB zX h1 fun w' h2 h3=>hK _ _ (h w' h2 h3)
theorem mh {P:Program} {w:World} {ops:Array Oper} {rest:List Oper} {o:Oper} {a:Act} {Q:Exit→Act→World→Prop} (yF:o.guard=none) (d:Operand) (t:TypeId)
  (ho:o.op=.call { callee:=.builtin .clear,args:=#[d],argTypes:=#[t] }) (e el:TypeId) (z:Value) (zs:List Value) (b ofs n c:Nat) (cur:List Value) (hd:a.eval d=F (some ⟨b,ofs,none⟩) n c)
  (ht:P.underlying t=some (.slice e)) (hv:∀ w,(zeroValue e).run P w=.ok z w) (hn:0 < n) (hz:(Builtin.zeroCells z.cells n).toList=zs) (h1:∀ v ∈ zs,v.oneCell'=true)
  (hL:Hid (ai w b el cur)) (AB:Hid (ofs+zs.length≤cur.length))
  (h:∀ w',Hid (ai w' b el (aZ cur ofs zs))→w.grownBy w' (some b)→wpList P ops Q rest (a.put o.dst (.tuple #[])) w'):wpList P ops Q (o :: rest) a w:=by
 have hr:=qy (P:=P) w t e o.type z zs ht hv b ofs n c hn hz h1 (fun j hj=>by rw [hL.out.cell,List.getElem?_eq_getElem (by have:=AB.out; omega)]; rfl) (fun j hj=>hL.out.frozen _)
 refine wpList_plain yF fun K hK=>?_
 unfold Oper.wp execOp
 simp only [ho,resolve,invoke,builtin,Sem.run_bind,Sem.run_pure,Result.andThen_ok,List.map_toArray,List.map_cons,List.map_nil,hd,hr]
 exact hK _ _ (h _ (ai.setCells zs ofs w cur hL.out AB.out) (f8 zs ofs w (World.grownBy.refl w _)))
theorem ac {w w' : World} {B:Nat} {e:TypeId} {k:Nat} {v:Value} {n:Nat} {xs:List Value} (h:w.ownsRow B e k v n xs) (hb:Below w.heap.size w w'):w'.ownsRow B e k v n xs:=by
 obtain ⟨hl,h0 | ⟨g,cap,cur,hv,hg,hh,h1,h2,h3,h4⟩⟩:=h
 ·exact ⟨hl,.inl h0⟩
 ·have wQ:g < w.heap.size:=by
   rcases Nat.lt_or_ge g w.heap.size with wQ | xq
   ·exact wQ
   ·rw [Array.getElem?_eq_none xq] at hh; cases hh
  exact ⟨hl,.inr ⟨g,cap,cur,hv,hg,(hb.block g wQ).trans hh,h1,h2,h3,h4⟩⟩
theorem bB {w:World} {B:Nat} {e t:TypeId} {k:Nat} {v:Value} {n:Nat} {xs cs:List Value} (h:w.ownsRow B e k v n xs) {g:Nat} (hg:ai w g t cs) (wT:e ≠ t):some g ≠ v.ownBlock:=by
 obtain ⟨_,⟨rfl,_⟩ | ⟨g',cap,cur,rfl,_,hh,_⟩⟩:=h
 ·simp [Value.ownBlock]
 ·intro he
  simp only [Value.ownBlock,Option.some.injEq] at he
  subst he
  unfold ai at hg
  rw [hg] at hh
  injection hh with hh; injection hh with _ h2; exact wT h2.symm
theorem ah {w:World} {B B' : Nat} {e:TypeId} {k:Nat} {v:Value} {n:Nat} {xs:List Value} (h:w.ownsRow B e k v n xs) (hB:B'≤B):w.ownsRow B' e k v n xs:=by
 obtain ⟨hl,h0 | ⟨g,cap,cur,hv,hg,hh⟩⟩:=h
 ·exact ⟨hl,.inl h0⟩
 ·exact ⟨hl,.inr ⟨g,cap,cur,hv,jT hB hg,hh⟩⟩
theorem ff {w w' : World} {B B' : Nat} {e e' : TypeId} {k k' : Nat} {v v' : Value} {n n' : Nat} {xs xs' : List Value} (h:w.ownsRow B e k v n xs) (h' : w.ownsRow B' e' k' v' n' xs') (wT:e' ≠ e) (hg:w.grownBy w' v'.ownBlock):w'.ownsRow B e k v n xs:=by
 refine h.kept hg ?_
 obtain ⟨_,⟨h1,_⟩ | ⟨g,cap,cur,h1,_,hh,_⟩⟩:=h
 ·left; rw [h1]; rfl
 ·right
  rw [h1]
  exact bB h' (g:=g) (t:=e) (cs:=cur.toList) (ai.of hh) wT
def lenOf:Value→Nat
 | F _ n _=>n
 | _=>0
theorem am {w:World} {B:Nat} {e t:TypeId} {k:Nat} {v:Value} {n:Nat} {xs cs:List Value} (h:w.ownsRow B e k v n xs) {g:Nat} (hg:ai w g t cs) (wT:e ≠ t) (i:Nat) (u:Value):(w.setCell ⟨g,i,none⟩ u).ownsRow B e k v n xs:=by
 have hf:=bB h hg wT
 obtain ⟨hl,h0 | ⟨g',cap,cur,hv,hg',hh,h1⟩⟩:=h
 ·exact ⟨hl,.inl h0⟩
 ·refine ⟨hl,.inr ⟨g',cap,cur,hv,hg',(Below.heap_setCell w _ u g' ?_).trans hh,h1⟩⟩
  intro e'
  subst hv
  exact hf (by simp only [Value.ownBlock]; rw [e'])
theorem ch {w:World} {B:Nat} {e:TypeId} {k:Nat} {v:Value} {n:Nat} {xs:List Value} (h:w.ownsRow B e k v n xs) (hn:0 < n):∃ g cap rest,v=F (some ⟨g,0,none⟩) n cap∧B≤g∧ai w g e (xs++rest)∧n≤cap:=by
 obtain ⟨hl,h0 | ⟨g,cap,cur,hv,hg,hh,h1,h2,h3,h4⟩⟩:=h
 ·omega
 ·refine ⟨g,cap,cur.toList.drop (n * k),hv,hg, ?_,h1⟩
  have:xs++cur.toList.drop (n * k)=cur.toList:=by rw [← h4]; exact List.take_append_drop _ _
  rw [this]; exact ai.of hh
theorem mS {w:World} {B g cap:Nat} {e:TypeId} {k n:Nat} {xs:List Value} (h:w.ownsRow B e k (F (some ⟨g,0,none⟩) n cap) n xs) (j:Nat) (u:Value) (hj:j < n * k):(w.setCell ⟨g,j,none⟩ u).ownsRow B e k (F (some ⟨g,0,none⟩) n cap) n (xs.set j u):=by
 obtain ⟨hl,h0 | ⟨g',cap',cur,hv,hg,hh,h1,h2,h3,h4⟩⟩:=h
 ·cases h0.1
 ·injection hv with e1 e2 e3
  injection e1 with e1; injection e1 with e1; subst e1; subst e3
  have hL:=(ai.of hh).set j u
  exact ⟨by rw [List.length_set]; exact hl,.inr ⟨g,cap,(cur.toList.set j u).toArray,rfl,hg,hL,h1,h2,by simp [h3],by show List.take _ (cur.toList.set j u)=_; rw [List.take_set,h4]⟩⟩
theorem aw {w:World} {B:Nat} {e:TypeId} {k:Nat} {A:Option Addr} {n c:Nat} {xs:List Value} (h:w.ownsRow B e k (F A n c) n xs):bm w w.heap.size k A n xs:=by
 obtain ⟨hl,h0 | ⟨g,cap,cur,hv,hg,hh,h1,h2,h3,h4⟩⟩:=h
 ·exact ⟨hl,oM,fun hn=>by omega⟩
 ·injection hv with e1 _ _
  refine ⟨hl,by unfold maxLen at h2; omega,fun hn=>⟨g,0,e1,(ai.of hh).lt,fun j u hu=>?_⟩⟩
  rw [Nat.zero_add,(ai.of hh).cell]
  rw [← h4,List.getElem?_take] at hu
  split at hu
  ·exact hu
  ·cases hu
theorem ak {w w' : World} {B:Nat} {e t:TypeId} {k:Nat} {v:Value} {n:Nat} {xs cs:List Value} (h:w.ownsRow B e k v n xs) {g:Nat} (hL:ai w g t cs) (wT:e ≠ t) (hg:w.grownBy w' (some g)):w'.ownsRow B e k v n xs :=
 h.kept hg (.inr fun e'=>bB h hL wT e'.symm)
section
variable {P:Program} {ops:Array Oper} {tm:Array Value} {o:Oper} {a:Act} {w:World} {K:Act→World→Prop} {Q:Exit→Act→World→Prop} {E:Prop}
theorem nw {t e:TypeId} (ht:P.underlying t=some (.slice e)):P.underlying t=some (.slice (P.elem t))∧P.elem t=e:=by
 have:P.elem t=e:=by simp [Program.elem,ht]
 exact ⟨by rw [this]; exact ht,this⟩
theorem bm.take {B k n:Nat} {A:Option Addr} {cs:List Value} (h:bm w B k A n cs) (i:Nat) (hi:i≤n):bm w B k A i (cs.take (i * k)):=by
 have hm:i * k≤n * k:=Nat.mul_le_mul_right k hi
 refine ⟨by rw [List.length_take,h.len]; omega,by have:=h.big; omega,fun h0=>?_⟩
 obtain ⟨b,off,e,hb,hc⟩:=h.at_ oM
 exact ⟨b,off,e,hb,fun j u hu=>hc j u (by rw [List.getElem?_take] at hu; split at hu; exact hu; cases hu)⟩
theorem bm.drop {B k n:Nat} {A A' : Option Addr} {cs:List Value} (h:bm w B k A n cs) (i:Nat) (hi:i≤n) (hA:i < n→A'=A.map fun p=>p.add (i * k)):bm w B k A' (n - i) (cs.drop (i * k)):=by
 refine ⟨by rw [List.length_drop,h.len,Nat.sub_mul],by have:=h.big; omega,fun h0=>?_⟩
 obtain ⟨b,off,e,hb,hc⟩:=h.at_ oM
 refine ⟨b,off+i * k, ?_,hb,fun j u hu=>?_⟩
 ·rw [hA oM,e]; simp only [Option.map_some,cR]
 ·rw [List.getElem?_drop] at hu
  have:=hc _ u hu
  rwa [Nat.add_assoc]
theorem pi {e:TypeId} {s:Nat} (hs:(P.info? e).map (·.size)=some s):∃ inf,P.info? e=some inf∧inf.size=s:=by
 cases hq:P.info? e with
 | none=>simp [hq] at hs
 | some inf=>exact ⟨inf,rfl,by simpa [hq] using hs⟩
theorem uN (A:Option Addr):A.map (fun p=>p.add 0)=A:=by cases A <;> simp [Addr.add]
theorem qG {t e:TypeId} (ht:P.underlying t=some (.slice e)) {s:Nat} (hs:(P.info? e).map (·.size)=some s) (A:Option Addr) (n c i:Nat) (hi:i≤n) (hc:n≤c) (w:World) :
  (Instr.slice t (.slice A n c) none (some (.int .i64 (i:Int))) none).run P w=.ok (.slice A i c) w:=by
 obtain ⟨h1,h2⟩:=nw ht
 obtain ⟨inf,xZ,xQ⟩:=pi hs
 rw [run_slice_h (P:=P) (w:=w) t A n c h1 .i64 (i:Int) oM oM,h2]
 simp [sizeOf,typeInfo,xZ,sliced,uN]
theorem oX {t e:TypeId} (ht:P.underlying t=some (.slice e)) {s:Nat} (hs:(P.info? e).map (·.size)=some s) (A:Option Addr) (n c i:Nat) (hi:i≤n) (w:World) :
  (Instr.slice t (.slice A n c) (some (.int .i64 (i:Int))) none none).run P w=.ok (.slice (if c=i then A else A.map (fun p=>p.add (i * s))) (n - i) (c - i)) w:=by
 obtain ⟨h1,h2⟩:=nw ht
 obtain ⟨inf,xZ,xQ⟩:=pi hs
 rw [run_slice_l (P:=P) (w:=w) t A n c h1 .i64 (i:Int) oM oM,h2]
 simp [sizeOf,typeInfo,xZ,sliced,xQ]
theorem lG (hg:o.guard=none) (t e:TypeId) (x y:Operand) (ho:o.op=.slice t x none (some y) none) (ht:P.underlying t=some (.slice e)) (s:Nat) (hs:(P.info? e).map (·.size)=some s)
  (A:Option Addr) (n c i:Nat) (hx:a.eval x=.slice A n c) (hy:a.eval y=.int .i64 (i:Int)) (hi:i≤n) (hc:n≤c)
  (h:K (a.put o.dst (.slice A i c)) w):if Region.wanted o (yielded ops tm)=true then o.wp P a w K Q else E:=by
 have hw:∀ tm:Array Value,Region.wanted o (yielded ops tm)=true:=fun tm=>by simp [Region.wanted,hg]
 rw [if_pos (hw _)]
 unfold Oper.wp execOp
 simp only [ho,hx,Option.map_some,Option.map_none,hy,run_sliceAt_slice (P:=P) (w:=w) t _ _ _ _ (nw ht).1,qG ht hs A n c i hi hc w,Sem.run_bind,Sem.run_pure,Result.andThen_ok]
 exact h
theorem ke (hg:o.guard=none) (t e:TypeId) (x y:Operand) (ho:o.op=.slice t x (some y) none none) (ht:P.underlying t=some (.slice e)) (s:Nat) (hs:(P.info? e).map (·.size)=some s)
  (A:Option Addr) (n c i:Nat) (hx:a.eval x=.slice A n c) (hy:a.eval y=.int .i64 (i:Int)) (hi:i≤n) (hc:n≤c)
  (h:∀ A',(∀ (W:World) (B:Nat) (cs:List Value),bm W B s A n cs→bm W B s A' (n - i) (cs.drop (i * s)))→K (a.put o.dst (.slice A' (n - i) (c - i))) w):if Region.wanted o (yielded ops tm)=true then o.wp P a w K Q else E:=by
 have hw:∀ tm:Array Value,Region.wanted o (yielded ops tm)=true:=fun tm=>by simp [Region.wanted,hg]
 rw [if_pos (hw _)]
 unfold Oper.wp execOp
 simp only [ho,hx,Option.map_some,Option.map_none,hy,run_sliceAt_slice (P:=P) (w:=w) t _ _ _ _ (nw ht).1,oX ht hs A n c i hi w,Sem.run_bind,Sem.run_pure,Result.andThen_ok]
 exact h _ fun W B cs hr=>hr.drop i hi fun wQ=>by rw [if_neg oM]
theorem jh (hg:o.guard=none) (s x:Operand) (t:TypeId) (ho:o.op=.call { callee:=.builtin .append,args:=#[s,x],argTypes:=#[t,t] })
  (e:TypeId) (z:Value) (k bytes:Nat) (ht:P.underlying t=some (.slice e)) (hinfo:(P.info? e).map (fun i=>(i.zero,i.size,i.bytes))=some (some z,k,bytes)) (yh:z.cells.size=k) (xQ:0 < k) (Au:bytes≤1000)
  (B:Nat) (v:Value) (n:Nat) (xs:List Value) (hs:a.eval s=v) (xg:w.ownsRow B e k v n xs)
  (S:Nat) (A:Option Addr) (m c:Nat) (cs:List Value) (hx:a.eval x=.slice A m c) (hr:bm w S k A m cs) (h1:∀ u ∈ cs,u.oneCell'=true)
  (hn:n+m≤1000000000) (hbase:B≤w.heap.size)
  (h:∀ A' c' w',w'.ownsRow B e k (.slice A' (n+m) c') (n+m) (xs++cs)→w.grownBy w' v.ownBlock→Below B w w'→K (a.put o.dst (.slice A' (n+m) c')) w'):if Region.wanted o (yielded ops tm)=true then o.wp P a w K Q else E:=by
 have hw:∀ tm:Array Value,Region.wanted o (yielded ops tm)=true:=fun tm=>by simp [Region.wanted,hg]
 rw [if_pos (hw _)]
 refine uJ s x t ho e z k bytes ht hinfo yh xQ Au B v n xs hs (jZ xg) S A m c cs hx (jZ hr) h1 hn hbase fun v' w' h2 h3 h4 _=>?_
 obtain ⟨A',c',rfl⟩:=az h2.out
 exact h A' c' w' h2.out h3 h4
theorem iK {B k n:Nat} {e:TypeId} {A:Option Addr} {c:Nat} {xs:List Value} (h:w.ownsRow B e k (.slice A n c) n xs):n≤c:=by
 obtain ⟨_,⟨h0,h1⟩ | ⟨g,cap,cur,hv,_,_,hc,_⟩⟩:=h
 ·injection h0 with _ h2 h3; omega
 ·injection hv with _ _ h3; omega
end
theorem r5 {k p:Int} {l:List ae} {i:Nat} (h:i < l.length):aP k p (l.drop i)=if fq k p l[i] then l[i].c else aP k p (l.drop (i+1)):=by
 rw [List.drop_eq_getElem_cons h,aP]
theorem gB (x:aO) (kd pe:Int) (w:World) (h:aQ w w.heap.size x) :
  Calls wH 201 #[x.val,O U kd,O U pe] w fun e w'=>e=.returned (O U (aP kd pe x.o))∧Below w.heap.size w w':=by
 have hl:=h.os.big
 have HF:Hid (aP kd pe (x.o.drop 0)=aP kd pe x.o):=rfl
 go_enter Tryz.func201,Tryz.ntmps201
 go_wp2
 have hb0:=bZ w (.cells #[F x.TA x.t.length x.tc,F x.OA x.o.length x.oc,O U x.gt,O U x.sd,O U x.ms] 40)
 have hS:=nI.of (x:=x) (ai.new w 40 #[F x.TA x.t.length x.tc,F x.OA x.o.length x.oc,O U x.gt,O U x.sd,O U x.ms])
 have hR:=h.up hb0 nR
 generalize w.alloc (.cells #[F x.TA x.t.length x.tc,F x.OA x.o.length x.oc,O U x.gt,O U x.sd,O U x.ms] 40)=W at hb0 hS hR ⊢
 have c1:=hS.c1
 have yn:=hR.os.el
 go_loopw [7] (fun i wr=>∃ (k:Nat),k≤x.o.length∧i=O U k∧(∃ q:ap W.heap.size W,wr=q.val)∧Hid (aP kd pe (x.o.drop k)=aP kd pe x.o)) (fun i _=>x.o.length - (intOf i).toNat)
 case atStart=>exact ⟨0,Nat.zero_le _,rfl,⟨ap.start _ _,rfl⟩,HF⟩
 case round =>
  obtain ⟨k,hk,rfl,⟨q,rfl⟩,HR⟩:=hrel
  by_cases wQ:k < x.o.length
  ·obtain ⟨b,off,hA,hb,hcell⟩:=yn oM
   obtain ⟨e0,e1,e2⟩:=hcell k wQ
   have xl:=r5 (k:=kd) (p:=pe) wQ
   obtain ⟨r,xy⟩ : ∃ r,r=x.o[k]:=⟨_,rfl⟩
   rw [← xy] at e0 e1 e2 xl
   simp only [hA] at c1
   clear xy hcell yn hA
   by_cases hz:r.k=kd
   ·by_cases hy:r.p=pe
    ·have HE:Hid (r.c=aP kd pe x.o):=by rw [if_pos (ej.2 ⟨hz,hy⟩)] at xl; rw [← xl]; exact HR.out
     have hv:(r.k == kd)=true:=by simp [hz]
     have hu:(r.p == pe)=true:=by simp [hy]
     clear xl hz hy
     go_wp2
     go_ret
     exact ⟨by rw [← HE.out]; rfl,hb0.trans (q.below.mono hb0.size)⟩
    ·have HE:Hid (aP kd pe (x.o.drop (k+1))=aP kd pe x.o):=by rw [if_neg (fun hh=>hy (ej.1 hh).2)] at xl; rw [← xl]; exact HR.out
     have hv:(r.k == kd)=true:=by simp [hz]
     have hu:(r.p == pe)=false:=by simp [hy]
     clear xl hz hy
     go_wp2
     go_roundw
     case rel=>exact ⟨k+1,oM,by go_num,⟨q,rfl⟩,HE⟩
     case measure=>simp [intOf]; omega
   ·have HE:Hid (aP kd pe (x.o.drop (k+1))=aP kd pe x.o):=by rw [if_neg (fun hh=>hz (ej.1 hh).1)] at xl; rw [← xl]; exact HR.out
    have hv:(r.k == kd)=false:=by simp [hz]
    clear xl hz
    go_wp2
    go_roundw
    case rel=>exact ⟨k+1,oM,by go_num,⟨q,rfl⟩,HE⟩
    case measure=>simp [intOf]; omega
  ·have HE:Hid (0=aP kd pe x.o):=by
    have h1:=HR.out; rw [List.drop_eq_nil_of_le oM] at h1; exact h1
   go_wp2
   go_ret
   exact ⟨by rw [← HE.out]; rfl,hb0.trans (q.below.mono hb0.size)⟩
abbrev aO.copy (x:aO) (g1 g2:Nat):aO:={ x with TA:=some ⟨g1,0,none⟩,tc:=x.t.length,OA:=some ⟨g2,0,none⟩,oc:=x.o.length }
theorem r6 {x:aO} {w:World} {g1 g2:Nat} (h1:ai w g1 104 (x.t.flatMap aq.enc)) (h2:ai w g2 147 (x.o.flatMap ae.enc)) (hn:x.t.length≤1048576) (hm:x.o.length≤1048576):aQ w w.heap.size (x.copy g1 g2) :=
 ⟨rP h1 (show x.t.length≤9223372036854775807 by omega),pI h2 (show x.o.length≤9223372036854775807 by omega)⟩
end Go.Proofs.YtoeoimhemojdeaaGreatDoor
