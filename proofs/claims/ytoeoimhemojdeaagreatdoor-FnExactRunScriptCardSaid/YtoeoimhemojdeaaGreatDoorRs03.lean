/- Rs03: the texts Splice QTray QOuting OwnR OwnRow StepI StepC, joined into one file. -/
import Derived.Lib.Overlaps
import Derived.Lib.SliceRun
import Derived.Laws.IdiomCopy
import Derived.Deep.RegionLaw
import Derived.Laws.Externs
import Derived.Lib.AppendZerosOnto
import Derived.StillTailTactics
import Derived.Laws.OwnMore
import Derived.Test.YtoeoimhemojdeaaGreatDoorRs01
import Derived.Test.YtoeoimhemojdeaaGreatDoorRs02

set_option linter.unusedVariables false
open Go.Value renaming int → O, slice → F, string → uk
open Go.IntKind renaming i64 → U

namespace Go.Proofs.YtoeoimhemojdeaaGreatDoor
open Go.RowKit
theorem ah.setCells {g:Nat} {t:TypeId} : ∀ (vs:List Value) (o:Nat) (w:World) (cs:List Value),ah w g t cs→o+vs.length≤cs.length→ah (w.setCells g o vs) g t (aU cs o vs)
 | [],o,w,cs,h,_=>by simpa [World.setCells,aU] using h
 | v :: r,o,w,cs,h,hl=>by
  rw [World.setCells]
  have h2:=ah.setCells r (o+1) (w.setCell ⟨g,o,none⟩ v) (cs.set o v) (h.set o v) (by simp at hl ⊢; omega)
  have e:aU (cs.set o v) (o+1) r=aU cs o (v :: r):=by
   unfold aU
   have hlt:o < cs.length:=by simp at hl; omega
   have e1:(cs.set o v).take (o+1)=cs.take o++[v]:=by
    rw [List.take_set,List.take_succ_eq_append_getElem hlt,List.set_append_right _ _ (by rw [List.length_take]; omega)]
    rw [List.length_take,Nat.min_eq_left (by omega),Nat.sub_self]; rfl
   have e2:(cs.set o v).drop (o+1+r.length)=cs.drop (o+(v :: r).length):=by
    rw [List.drop_set_of_lt (by omega)]; congr 1; simp; omega
   rw [e1,e2]; simp
  rw [e] at h2; exact h2
theorem fo {a:World} {g:Nat} : ∀ (vs:List Value) (o:Nat) (w:World),a.grownBy w (some g)→a.grownBy (w.setCells g o vs) (some g)
 | [],_,_,h=>h
 | v :: r,o,w,h=>by
  rw [World.setCells]
  have hs:a.grownBy (w.setCell ⟨g,o,none⟩ v) (some g) :=
   ⟨h.os,h.tape,h.output,by have:=h.size; simpa [World.setCell] using this,fun k hk hne=>(Below.heap_setCell w ⟨g,o,none⟩ v k (fun e=>hne (by rw [e]))).trans (h.block k hk hne)⟩
  exact fo r (o+1) _ hs
theorem ah.drew {w:World} {g:Nat} {t:TypeId} {cs:List Value} (h:ah w g t cs):ah w.drew g t cs:=h
theorem p9 {P:Program} (w:World) (dT sT ty elem:TypeId) (k b o dLen dCap:Nat) (a:Addr) (sLen sCap:Nat) (cs:List Value)
  (hu:P.underlying dT=some (.slice elem)) (hs:(P.info? elem).map (·.size)=some k) (hn:cs.length=Nat.min sLen dLen * k)
  (hsrc:∀ j v,cs[j]?=some v→w.cell? (a.add j)=some v) (hc:∀ j,j < cs.length→(w.cell? ⟨b,o+j,none⟩).isSome=true) (hf:∀ j,j < cs.length→w.frozen? ⟨b,o+j,none⟩=false) (h1:∀ v ∈ cs,v.oneCell'=true) :
  (Builtin.copy_ #[dT,sT] ty #[F (some ⟨b,o,none⟩) dLen dCap,F (some a) sLen sCap]).run P w=.ok (goInt (Nat.min sLen dLen)) (w.setCells b o cs):=by
 have hst:=run_storeCells_cells (P:=P) b o cs 0 w (by simpa using hc) (by simpa using hf) h1
 cases hq:P.info? elem with
 | none=>simp [hq] at hs
 | some i =>
  have hi:i.size=k:=by simpa [hq] using hs
  have hfc:=run_firstCells_some (P:=P) w k (Nat.min sLen dLen) a sLen sCap cs hn hsrc
  simp [Builtin.copy_,run_underlying hu,Builtin.lenOf,sizeOf,typeInfo,hq,hi,hfc,hst]
theorem nT {P:Program} (w:World) (dT sT ty elem e:TypeId) (k b o dLen dCap:Nat) (a:Addr) (sLen sCap m:Nat) (cs cur:List Value)
  (hu:P.underlying dT=some (.slice elem)) (hs:(P.info? elem).map (·.size)=some k) (hm:Nat.min sLen dLen=m) (hn:cs.length=m * k)
  (hL:ah w b e cur) (hfit:o+cs.length≤cur.length) (hsrc:∀ j v,cs[j]?=some v→w.cell? (a.add j)=some v) (h1:∀ v ∈ cs,v.oneCell'=true) :
  (Builtin.copy_ #[dT,sT] ty #[F (some ⟨b,o,none⟩) dLen dCap,F (some a) sLen sCap]).run P w=.ok (goInt m) (w.setCells b o cs):=by
 subst hm
 exact p9 w dT sT ty elem k b o dLen dCap a sLen sCap cs hu hs hn hsrc (fun j hj=>by rw [hL.cell,List.getElem?_eq_getElem (by omega)]; rfl) (fun j hj=>hL.frozen _) h1
theorem oU {P:Program} (w:World) (t e ty:TypeId) (z:Value) (zs:List Value) (ht:P.underlying t=some (.slice e)) (hv:∀ w,(zeroValue e).run P w=.ok z w) (b o n c:Nat) (hn:0 < n) (hz:(Builtin.zeroCells z.cells n).toList=zs) (h1:∀ v ∈ zs,v.oneCell'=true)
  (hc:∀ j,j < zs.length→(w.cell? ⟨b,o+j,none⟩).isSome=true) (hf:∀ j,j < zs.length→w.frozen? ⟨b,o+j,none⟩=false) :
  (Builtin.clear_ #[t] ty #[F (some ⟨b,o,none⟩) n c]).run P w=.ok (.tuple #[]) (w.setCells b o zs):=by
 have hst:=run_storeCells_cells (P:=P) b o zs 0 w (by simpa using hc) (by simpa using hf) h1
 simp only [Nat.add_zero] at hst
 obtain ⟨m,rfl⟩ : ∃ m,n=m+1:=⟨n - 1,by omega⟩
 simp [Builtin.clear_,run_underlying ht,hv,hz,hst]
theorem jC (cur xs x:List Value) (i k n:Nat) (hx:x.length=k) (hxs:xs.length=n * k) (hi:i≤n) (hcur:cur.take (n * k)=xs) (hroom:(n+1) * k≤cur.length) :
  (aU (aU cur (i * k+k) (xs.drop (i * k))) (i * k) x).take ((n+1) * k)=xs.take (i * k)++x++xs.drop (i * k):=by
 have hik:i * k≤n * k:=Nat.mul_le_mul_right k hi
 have hn1:(n+1) * k=n * k+k:=Nat.succ_mul n k
 rw [hn1] at hroom ⊢
 have hl0:n * k≤cur.length:=by omega
 have et:(cur.take (i * k))=xs.take (i * k):=by rw [← hcur,List.take_take,Nat.min_eq_left hik]
 have hd:(xs.drop (i * k)).length=n * k - i * k:=by rw [List.length_drop,hxs]
 have e1:aU cur (i * k+k) (xs.drop (i * k))=cur.take (i * k+k)++xs.drop (i * k)++cur.drop (n * k+k):=by
  unfold aU; rw [hd]; congr 2; omega
 have l1:(cur.take (i * k+k)).length=i * k+k:=by rw [List.length_take]; omega
 rw [e1]
 unfold aU
 have e2:(cur.take (i * k+k)++xs.drop (i * k)++cur.drop (n * k+k)).take (i * k)=xs.take (i * k):=by
  rw [List.append_assoc,List.take_append_of_le_length (by omega),List.take_take,Nat.min_eq_left (by omega),et]
 have e3:(cur.take (i * k+k)++xs.drop (i * k)++cur.drop (n * k+k)).drop (i * k+x.length)=xs.drop (i * k)++cur.drop (n * k+k):=by
  rw [hx,List.append_assoc,List.drop_append_of_le_length (by omega),List.drop_of_length_le (by omega),List.nil_append]
 rw [e2,e3,← List.append_assoc]
 have l2:(xs.take (i * k)++x++xs.drop (i * k)).length=n * k+k:=by
  rw [List.length_append,List.length_append,List.length_take,hd,hxs,hx]; omega
 rw [List.take_append_of_le_length (by omega),List.take_of_length_le (by omega)]
theorem bD (cs vs:List Value) (o:Nat) (h:o+vs.length≤cs.length):(aU cs o vs).length=cs.length:=by
 unfold aU; simp; omega
theorem m3 (cur xs zs:List Value) (i k n:Nat) (hz:zs.length=k) (hxs:xs.length=n * k) (hi:i < n) (hcur:cur.take (n * k)=xs) (hl:n * k≤cur.length) :
  (aU (aU cur (i * k) (xs.drop (i * k+k))) ((n - 1) * k) zs).take ((n - 1) * k)=xs.take (i * k)++xs.drop (i * k+k):=by
 have hik:i * k+k≤n * k:=by rw [← Nat.succ_mul]; exact Nat.mul_le_mul_right k hi
 have hn1:(n - 1) * k+k=n * k:=by rw [← Nat.succ_mul]; congr 1; omega
 have et:(cur.take (i * k))=xs.take (i * k):=by rw [← hcur,List.take_take,Nat.min_eq_left (by omega)]
 have hd:(xs.drop (i * k+k)).length=n * k - (i * k+k):=by rw [List.length_drop,hxs]
 have l1:(xs.take (i * k)++xs.drop (i * k+k)).length=(n - 1) * k:=by rw [List.length_append,List.length_take,hd,hxs]; omega
 have e1:(aU cur (i * k) (xs.drop (i * k+k))).take ((n - 1) * k)=xs.take (i * k)++xs.drop (i * k+k):=by
  unfold aU; rw [et,List.take_append_of_le_length (by omega),List.take_of_length_le (by omega)]
 have l2:(aU cur (i * k) (xs.drop (i * k+k))).length=cur.length:=bD _ _ _ (by rw [hd]; omega)
 have e2:(aU (aU cur (i * k) (xs.drop (i * k+k))) ((n - 1) * k) zs)=(aU cur (i * k) (xs.drop (i * k+k))).take ((n - 1) * k)++(zs++(aU cur (i * k) (xs.drop (i * k+k))).drop ((n - 1) * k+zs.length)):=by
  rw [aU,List.append_assoc]
 rw [e2,List.take_append_of_le_length (by rw [List.length_take]; omega),List.take_take,Nat.min_self,e1]
theorem lA (xs x Z:List Value) (i k n:Nat) (hx:x.length=k) (hxs:xs.length=n * k) (hi:i≤n) (hZ:(n+1) * k≤i * k+Z.length) :
  (aU (aU (xs.take (i * k)++Z) (i * k) x) ((i+1) * k) (xs.drop (i * k))).take ((n+1) * k)=xs.take (i * k)++x++xs.drop (i * k):=by
 have hik:i * k≤n * k:=Nat.mul_le_mul_right k hi
 have hn1:(n+1) * k=n * k+k:=Nat.succ_mul n k
 have hi1:(i+1) * k=i * k+k:=Nat.succ_mul i k
 rw [hn1] at hZ ⊢
 rw [hi1]
 have lt:(xs.take (i * k)).length=i * k:=by rw [List.length_take]; omega
 have ld:(xs.drop (i * k)).length=n * k - i * k:=by rw [List.length_drop,hxs]
 have e1:aU (xs.take (i * k)++Z) (i * k) x=xs.take (i * k)++x++Z.drop k:=by
  unfold aU
  rw [List.take_append_of_le_length (by omega),List.take_of_length_le (by omega),List.drop_append,List.drop_eq_nil_of_le (by omega),lt,hx,List.nil_append]
  congr 2; omega
 have l1:(xs.take (i * k)++x).length=i * k+k:=by rw [List.length_append,lt,hx]
 rw [e1]
 unfold aU
 have e2:(xs.take (i * k)++x++Z.drop k).take (i * k+k)=xs.take (i * k)++x:=by
  rw [List.take_append_of_le_length (by omega),List.take_of_length_le (by omega)]
 rw [e2]
 have l2:(xs.take (i * k)++x++xs.drop (i * k)).length=n * k+k:=by rw [List.length_append,l1,ld]; omega
 rw [List.take_append_of_le_length (by omega),List.take_of_length_le (by omega)]
theorem ah.shape {w:World} {g:Nat} {t:TypeId} {cs:List Value} (h:ah w g t cs):w.shape? g=some (t,cs.length):=by
 unfold ah at h; simp [World.shape?,h]
theorem ig {P : Program} (w : World) (f : FuncId) (fn : Func) (tS tR e : TypeId) (hf : P.funcs[f]? = some fn) (hname : (fn.name == "runtime.NumGoroutine") = false) (hb : fn.body.isNone = true) (hnx : Extern.findNext fn = none) (he : Extern.find fn = some (Extern.SlicesOverlaps.overlaps #[tS, tS] #[tR]))
  (ht:P.underlying tS=some (.slice e)) (size:Nat) (hz:∀ w,(Go.sizeOf e).run P w=.ok size w) (ga gb:Nat) (oa ob la ca lb cb:Nat) (hne:ga ≠ gb) (ta tb:TypeId) (xa xb:List Value) (hLa:ah w ga ta xa) (hLb:ah w gb tb xb) (hxb:xb.length ≠ 0) :
  (callFunc f #[F (some ⟨ga,oa,none⟩) la ca,F (some ⟨gb,ob,none⟩) lb cb]).run P w=.ok (.value (.bool false)) w:=by
 rw [run_callFunc_extern hf hname hb hnx he,Lib.run_overlaps_apart w tS tR e ht size hz ⟨ga,oa,none⟩ ⟨gb,ob,none⟩ la ca lb cb hne ta tb _ _ hLa.shape hLb.shape hxb (hLa.frozen _) (hLa.frozen _)]
 rfl
theorem m4 {P:Program} (w:World) {o:Oper} {a:Act} {K:Act→World→Prop} {Q:Exit→Act→World→Prop} (d s:Operand) (t t' : TypeId)
  (ho:o.op=.call { callee:=.builtin .copy,args:=#[d,s],argTypes:=#[t,t'] }) (v u:Value) (hd:a.eval d=v) (hs:a.eval s=u) {v' : Value} {w' : World}
  (hr:(Builtin.copy_ #[t,t'] o.type #[v,u]).run P w=.ok v' w') (h:K (a.put o.dst v') w'):o.wp P a w K Q:=by
 unfold Oper.wp execOp
 simp only [ho,resolve,invoke,builtin,Sem.run_bind,Sem.run_pure,Result.andThen_ok,List.map_toArray,List.map_cons,List.map_nil,hd,hs,hr]
 exact h
theorem lB {P:Program} {w:World} {o:Oper} {a:Act} {K:Act→World→Prop} {Q:Exit→Act→World→Prop} (d s:Operand) (t:TypeId)
  (ho:o.op=.call { callee:=.builtin .copy,args:=#[d,s],argTypes:=#[t,t] }) (e elem:TypeId) (k b ofs dLen dCap:Nat) (A:Addr) (sLen sCap m:Nat) (cs cur:List Value)
  (hd:a.eval d=F (some ⟨b,ofs,none⟩) dLen dCap) (hs:a.eval s=F (some A) sLen sCap)
  (hu:P.underlying t=some (.slice elem)) (hi:(P.info? elem).map (·.size)=some k) (hm:Nat.min sLen dLen=m) (hn:cs.length=m * k)
  (hL:Hid (ah w b e cur)) (hfit:Hid (ofs+cs.length≤cur.length)) (hsrc:Hid (∀ j v,cs[j]?=some v→w.cell? (A.add j)=some v)) (h1:Hid (∀ v ∈ cs,v.oneCell'=true))
  (h:∀ w',Hid (ah w' b e (aU cur ofs cs))→w.grownBy w' (some b)→K (a.put o.dst (goInt m)) w'):o.wp P a w K Q :=
 m4 w d s t t ho _ _ hd hs (nT w t t o.type elem e k b ofs dLen dCap A sLen sCap m cs cur hu hi hm hn hL.out hfit.out hsrc.out h1.out) (h _ (ah.setCells cs ofs w cur hL.out hfit.out) (fo cs ofs w (World.grownBy.refl w _)))
theorem ck {P:Program} {w:World} {ops:Array Oper} {rest:List Oper} {o:Oper} {a:Act} {Q:Exit→Act→World→Prop} (hgd:o.guard=none) (d s:Operand) (t:TypeId)
  (ho:o.op=.call { callee:=.builtin .copy,args:=#[d,s],argTypes:=#[t,t] }) (e elem:TypeId) (k b ofs dLen dCap:Nat) (A:Addr) (sLen sCap m:Nat) (cs cur:List Value)
  (hd:a.eval d=F (some ⟨b,ofs,none⟩) dLen dCap) (hs:a.eval s=F (some A) sLen sCap)
  (hu:P.underlying t=some (.slice elem)) (hi:(P.info? elem).map (·.size)=some k) (hm:Nat.min sLen dLen=m) (hn:cs.length=m * k)
  (hL:Hid (ah w b e cur)) (hfit:Hid (ofs+cs.length≤cur.length)) (hsrc:Hid (∀ j v,cs[j]?=some v→w.cell? (A.add j)=some v)) (h1:Hid (∀ v ∈ cs,v.oneCell'=true))
  (h:∀ w',Hid (ah w' b e (aU cur ofs cs))→w.grownBy w' (some b)→wpList P ops Q rest (a.put o.dst (goInt m)) w'):wpList P ops Q (o :: rest) a w :=
 wpList_plain hgd fun _ hK=>lB d s t ho e elem k b ofs dLen dCap A sLen sCap m cs cur hd hs hu hi hm hn hL hfit hsrc h1 fun w' h2 h3=>hK _ _ (h w' h2 h3)
theorem kO {P:Program} {w:World} {ops:Array Oper} {rest:List Oper} {o:Oper} {a:Act} {Q:Exit→Act→World→Prop} (hgd:o.guard=none) (d:Operand) (t:TypeId)
  (ho:o.op=.call { callee:=.builtin .clear,args:=#[d],argTypes:=#[t] }) (e el:TypeId) (z:Value) (zs:List Value) (b ofs n c:Nat) (cur:List Value) (hd:a.eval d=F (some ⟨b,ofs,none⟩) n c)
  (ht:P.underlying t=some (.slice e)) (hv:∀ w,(zeroValue e).run P w=.ok z w) (hn:0 < n) (hz:(Builtin.zeroCells z.cells n).toList=zs) (h1:∀ v ∈ zs,v.oneCell'=true)
  (hL:Hid (ah w b el cur)) (hfit:Hid (ofs+zs.length≤cur.length))
  (h:∀ w',Hid (ah w' b el (aU cur ofs zs))→w.grownBy w' (some b)→wpList P ops Q rest (a.put o.dst (.tuple #[])) w'):wpList P ops Q (o :: rest) a w:=by
 have hr:=oU (P:=P) w t e o.type z zs ht hv b ofs n c hn hz h1 (fun j hj=>by rw [hL.out.cell,List.getElem?_eq_getElem (by have:=hfit.out; omega)]; rfl) (fun j hj=>hL.out.frozen _)
 refine wpList_plain hgd fun K hK=>?_
 unfold Oper.wp execOp
 simp only [ho,resolve,invoke,builtin,Sem.run_bind,Sem.run_pure,Result.andThen_ok,List.map_toArray,List.map_cons,List.map_nil,hd,hr]
 exact hK _ _ (h _ (ah.setCells zs ofs w cur hL.out hfit.out) (fo zs ofs w (World.grownBy.refl w _)))
set_option maxRecDepth 100000 in
set_option maxHeartbeats 2000000 in
theorem qa (cf:ap→Int) (tv:Value) (g:Nat) (lb:Array Value) (eg:∀ args w,(callFunc g args).run Tryz.prog w=.ok (.enter g args) w) (A:Option Addr) (c:Nat) (l:List ap) (w:World)
  (hf:∀ (t:ap) (p:an w.heap.size w),Calls Tryz.prog g (#[t.val,tv]++lb) p.val fun e w'=>e=.returned (O U (cf t))∧Below p.val.heap.size p.val w') (h:fk w w.heap.size A l) (hl:l.length≤1000000)
  (b:Nat) (hb:b≤l.length) (hlo:∀ i (h:i < l.length),i < b→cf l[i] < 0) (hhi:∀ i (h:i < l.length),b≤i→¬ cf l[i] < 0) (fd:Bool) (hfd:∀ h:b < l.length,fd=decide (cf l[b]=0)) (hfd' : b=l.length→fd=false) :
  Calls Tryz.prog 212 #[F A l.length c,tv,.func (.func g) #[] lb] w fun e w'=>e=.returned (.tuple #[O U b,.bool fd])∧Below w.heap.size w w':=by
 have hrd:=h.el
 have HC:=Lib.hid hf; clear hf
 have HLO:=Lib.hid hlo; clear hlo
 have HHI:=Lib.hid hhi; clear hhi
 have HFD:=Lib.hid hfd; clear hfd
 have HFD':=Lib.hid hfd'; clear hfd'
 go_enter Tryz.func212,Tryz.ntmps212
 go_wp2
 go_loopw [9,10] (fun s9 s10 wr=>∃ lo hi:Nat,s9=O U lo∧s10=O U hi∧lo≤b∧b≤hi∧hi≤l.length∧(∃ q:an w.heap.size w,wr=q.val)) (fun s9 s10 _=>(intOf s10).toNat - (intOf s9).toNat)
 case atStart=>exact ⟨0,l.length,rfl,rfl,Nat.zero_le _,hb,Nat.le_refl _,an.start _ _,rfl⟩
 case round =>
  obtain ⟨lo,hi,rfl,rfl,h1,h2,h3,⟨q,rfl⟩⟩:=hrel
  by_cases hlt:lo < hi
  ·have hm:(lo+hi) / 2 < l.length:=by omega
   obtain ⟨bb,off,rfl,hbb,hcell⟩:=hrd (by omega)
   obtain ⟨c0,c1⟩:=hcell ((lo+hi) / 2) hm
   have k1:cf l[(lo+hi) / 2] < 0→(lo+hi) / 2+1≤b:=fun hv=>by
    rcases Nat.lt_or_ge ((lo+hi) / 2) b with h | h
    ·exact h
    ·have:=HHI.out _ hm h; omega
   have k2 : ¬ cf l[(lo+hi) / 2] < 0→b≤(lo+hi) / 2:=fun hv=>by
    rcases Nat.lt_or_ge ((lo+hi) / 2) b with h | h
    ·have:=HLO.out _ hm h; omega
    ·exact h
   obtain ⟨x,hxe⟩ : ∃ x,x=l[(lo+hi) / 2]:=⟨_,rfl⟩
   rw [← hxe] at c0 c1 k1 k2
   have hcx:=fun p=>HC.out x p
   clear hxe hcell hrd
   by_cases hv:cf x < 0
   ·have K:=k1 hv
    clear k1 k2
    go_wp2_with fail
    refine (aK (Nat.le_refl _) (hcx _)).mono ?_
    rintro e w1 ⟨rfl,q1,rfl⟩
    go_wp2
    go_roundw
    case rel=>exact ⟨(lo+hi) / 2+1,hi,by go_num,rfl,K,h2,h3,⟨q1,rfl⟩⟩
    case measure=>simp [intOf]; omega
   ·have K:=k2 hv
    clear k1 k2
    go_wp2_with fail
    refine (aK (Nat.le_refl _) (hcx _)).mono ?_
    rintro e w1 ⟨rfl,q1,rfl⟩
    go_wp2
    go_roundw
    case rel=>exact ⟨lo,(lo+hi) / 2,rfl,by go_num,h1,K,by omega,⟨q1,rfl⟩⟩
    case measure=>simp [intOf]; omega
  ·obtain rfl:hi=b:=by omega
   obtain rfl:lo=hi:=by omega
   by_cases hlb:lo < l.length
   ·obtain ⟨bb,off,rfl,hbb,hcell⟩:=hrd (by omega)
    obtain ⟨c0,c1⟩:=hcell lo hlb
    have HE:=Lib.hid (HFD.out hlb)
    obtain ⟨x,hxe⟩ : ∃ x,x=l[lo]:=⟨_,rfl⟩
    rw [← hxe] at c0 c1 HE
    have hcx:=fun p=>HC.out x p
    clear hxe hcell hrd
    by_cases hv:cf x=0
    ·have hv' : (cf x == 0)=true:=by simp [hv]
     have HV:Hid (fd=true):=by unfold Hid; rw [HE.out,decide_eq_true hv]
     clear hv
     go_wp2_with fail
     refine (aK (Nat.le_refl _) (hcx _)).mono ?_
     rintro e w1 ⟨rfl,q1,rfl⟩
     go_wp2
     go_ret2
     exact ⟨by rw [HV.out]; rfl,q1.below⟩
    ·have hv' : (cf x == 0)=false:=by simp [hv]
     have HV:Hid (fd=false):=by unfold Hid; rw [HE.out,decide_eq_false hv]
     clear hv
     go_wp2_with fail
     refine (aK (Nat.le_refl _) (hcx _)).mono ?_
     rintro e w1 ⟨rfl,q1,rfl⟩
     go_wp2
     go_ret2
     exact ⟨by rw [HV.out]; rfl,q1.below⟩
   ·have HV:=Lib.hid (HFD'.out (by omega))
    clear hrd
    go_wp2
    go_ret2
    exact ⟨by rw [HV.out]; rfl,q.below⟩
theorem dN {l:List ap} : ∀ u ∈ l.flatMap ap.enc,u.oneCell'=true:=by
 intro u hu
 obtain ⟨r,_,hr⟩:=List.mem_flatMap.1 hu
 simp only [ap.enc,List.mem_cons,List.not_mem_nil,or_false] at hr
 rcases hr with rfl | rfl <;> rfl
theorem m5 (A:Option Addr) (c:Nat) (l:List ap) (w:World) (h:fk w w.heap.size A l) (hn:l.length≤1000000) :
  Calls Tryz.prog 147 #[F A l.length c] w fun e w'=>∃ A' c',e=.returned (F A' l.length c')∧w'.ownsRow w.heap.size 104 2 (F A' l.length c') l.length (l.flatMap ap.enc)∧Below w.heap.size w w':=by
 rcases A with _ | ad
 ·have h0:l.length=0:=by
   rcases Nat.eq_zero_or_pos l.length with h0 | h0
   ·exact h0
   ·obtain ⟨_,_,h1,_⟩:=h.at_ h0; cases h1
  obtain rfl:l = []:=List.eq_nil_of_length_eq_zero h0
  have hq:=fun W=>Lib.run_eql_slice_nil (P:=Tryz.prog) W 37 104 none 0 c 0 0 Tryz.underlying37
  go_enter Tryz.func147,Tryz.ntmps147
  go_wp2_with fail
  go_ret
  exact ⟨none,0,rfl,⟨by simp,.inl ⟨rfl,rfl⟩⟩,Below.refl _ _⟩
 ·have HO:Hid ((w.alloc (.cells #[] 104)).ownsRow w.heap.size 104 2 (F (some ⟨w.heap.size,0,none⟩) 0 0) 0 []):=cP (ah.new w 104 #[]) (Nat.le_refl _)
  have b1:=(Below.refl w.heap.size w).alloc (Nat.le_refl _) (.cells #[] 104)
  have HR:=Lib.hid (aY.below h b1)
  have hq:=fun W=>Lib.run_eql_slice_nil (P:=Tryz.prog) W 37 104 (some ad) l.length c 0 0 Tryz.underlying37
  go_enter Tryz.func147,Tryz.ntmps147
  go_wp2_with (at_builtin; refine gu rfl _ _ 37 rfl 104 _ 2 16 Tryz.underlying37 dw rfl (by omega) (by omega) w.heap.size _ 0 [] rfl HO w.heap.size (some ad) l.length c (l.flatMap ap.enc) rfl HR dN (by omega) b1.size ?_; intro v' w1 hown _ hb2 _)
  go_ret
  have ho:=hown.out
  rw [Nat.zero_add,List.nil_append] at ho
  obtain ⟨A',c',rfl⟩:=av ho
  exact ⟨A',c',rfl,ho,b1.trans hb2⟩
set_option maxRecDepth 100000 in
set_option maxHeartbeats 4000000 in
theorem oV (B:Nat) (v:Value) (n:Nat) (xs:List Value) (w:World) (hown:w.ownsRow B 104 2 v n xs) (hn:n≤1000000) (r:ap) (gx cx:Nat) (hx:ah w gx 104 r.enc) (hB:B≤w.heap.size) :
  Calls Tryz.prog 214 #[v,O U n,F (some ⟨gx,0,none⟩) 1 cx] w fun e w'=>∃ v',e=.returned v'∧w'.ownsRow B 104 2 v' (n+1) (xs++r.enc)∧w.grownBy w' v.ownBlock:=by
 obtain ⟨i0,hi0,hz0,hzs,hzb⟩:=info_parts dw
 obtain ⟨v',w',hrun,h2,h3,_,_⟩:=run_append_own_at (P:=Tryz.prog) w B 37 37 104 i0 _ 2 16 Tryz.underlying37 hi0 hz0 hzs hzb rfl (by omega) v n xs hown ⟨gx,0,none⟩ 1 cx r.enc rfl (fun j u hj=>by rw [cd,Nat.zero_add,hx.cell]; exact hj) (by simp [ap.enc,Value.oneCell']) (by unfold maxLen; omega) (by omega) hB
 have HO:=Lib.hid h2; clear h2
 have HG:=Lib.hid h3; clear h3
 have HR:=Lib.hid hrun; clear hrun
 obtain ⟨_,⟨rfl,rfl⟩ | ⟨g,cap,cur,rfl,hg,hh,hc,hc',_,_⟩⟩:=hown
 ·go_enter Tryz.func214,Tryz.ntmps214
  go_wp2_with (at_builtin; refine Lib.wpList_append_run _ rfl _ _ 37 37 rfl _ _ rfl rfl v' w' HR.out ?_)
  go_ret
  exact ⟨v',rfl,HO.out,HG.out⟩
 ·have hc2:cap≤9223372036854775807:=by unfold maxLen at hc'; omega
  clear hc'
  by_cases hcn:cap=n
  all_goals
   go_enter Tryz.func214,Tryz.ntmps214
   go_wp2_with (at_builtin; refine Lib.wpList_append_run _ rfl _ _ 37 37 rfl _ _ rfl rfl v' w' HR.out ?_)
   go_ret
   exact ⟨v',rfl,HO.out,HG.out⟩
set_option maxRecDepth 100000 in
set_option maxHeartbeats 4000000 in
theorem nU (B g n:Nat) (cur:Array Value) (xs:List Value) (w:World) (hL:ah w g 104 cur.toList) (hcs:cur.size=n * 2) (hcur:cur.toList.take (n * 2)=xs) (i:Nat) (hi:i < n) (hn:n≤1000000) (r:ap) (gx cx:Nat) (hx:ah w gx 104 r.enc) (hB:B≤w.heap.size) (h1:∀ u ∈ xs,u.oneCell'=true) :
  Calls Tryz.prog 214 #[F (some ⟨g,0,none⟩) n n,O U i,F (some ⟨gx,0,none⟩) 1 cx] w fun e w'=>∃ v',e=.returned v'∧w'.ownsRow B 104 2 v' (n+1) (xs.take (i * 2)++r.enc++xs.drop (i * 2))∧w.grownBy w' (some g):=by
 have mixed:Tryz.prog.follows .mixedOrders=true:=by kernel_rfl
 obtain ⟨i0,hi0,hz0,hzs,hzb⟩:=info_parts dw
 have hxl:xs.length=n * 2:=by rw [← hcur,List.length_take,Array.length_toList,hcs,Nat.min_self]
 have hik:i * 2≤n * 2:=Nat.mul_le_mul_right _ (by omega)
 have hsz:(Tryz.prog.info? 104).map (·.size)=some 2:=by rw [hi0]; simp [hzs]
 have hkk:(n:Int)+1 - (i:Int)=((n+1 - i:Nat):Int):=by omega
 have hik2:i+(n+1 - i)=n+1:=by omega
 have hcell:∀ j u,xs[j]?=some u→w.cell? ⟨g,j,none⟩=some u:=fun j u hu=>by
  rw [hL.cell]
  rw [← hcur,List.getElem?_take] at hu
  split at hu
  ·exact hu
  ·cases hu
 have hold:(Builtin.firstCells i0.size i (F (some ⟨g,0,none⟩) i n)).run Tryz.prog w.drew=.ok (xs.take (i * 2)).toArray w.drew:=by
  rw [hzs]
  exact run_firstCells_some w.drew 2 i ⟨g,0,none⟩ i n (xs.take (i * 2)) (by rw [List.length_take]; omega) (fun j u hj=>by
   rw [cd,Nat.zero_add]
   rw [List.getElem?_take] at hj
   split at hj
   ·exact hcell j u hj
   ·cases hj)
 have hrz:=Lib.run_append_grow_zeros (P:=Tryz.prog) w 37 3 37 104 i0 _ .i64 .i64 Tryz.underlying37 Tryz.underlying3 hi0 hz0 (some ⟨g,0,none⟩) i n (xs.take (i * 2)) hold (n+1 - i) (by omega) (by omega) (by omega) (by omega) (by rw [hzb]; omega) (by rw [hzb,hik2]; exact growslice_fits (by omega) (by omega))
 rw [hik2,← hkk] at hrz
 obtain ⟨G,hG⟩ : ∃ G,G=grownCap w (n+1) n 104:=⟨_,rfl⟩
 have hGn:n+1≤G:=by rw [hG]; exact grownCap_ge w _ _ _
 have hG63:G≤maxLen:=by rw [hG]; exact grownCap_le_maxLen w (n+1) n 104 (by unfold maxLen; omega)
 have hG64:G≤9223372036854775807:=by unfold maxLen at hG63; omega
 rw [← hG] at hrz
 obtain ⟨Z,hZ⟩ : ∃ Z:List Value,Z=(Builtin.zeroCells (Value.agg #[O U 0,O U 0]).cells (n+1 - i)++Builtin.zeroCells (Value.agg #[O U 0,O U 0]).cells (G - (n+1))).toList:=⟨_,rfl⟩
 have hZl:Z.length=(n+1 - i) * 2+(G - (n+1)) * 2:=by rw [hZ,Array.length_toList,Array.size_append,size_zeroCells,size_zeroCells]; rfl
 obtain ⟨ROW,hROW⟩ : ∃ ROW:Array Value,ROW=(xs.take (i * 2)).toArray++Builtin.zeroCells (Value.agg #[O U 0,O U 0]).cells (n+1 - i)++Builtin.zeroCells (Value.agg #[O U 0,O U 0]).cells (G - (n+1)):=⟨_,rfl⟩
 have hRl:ROW.toList=xs.take (i * 2)++Z:=by rw [hROW,hZ]; simp
 rw [← hROW] at hrz
 clear hROW hZ hG hold hcs hcur
 obtain ⟨W1,hW1⟩ : ∃ W1,W1=w.drew.alloc (.cells ROW 104):=⟨_,rfl⟩
 rw [← hW1] at hrz
 have LN:ah W1 w.heap.size 104 (xs.take (i * 2)++Z):=by rw [hW1,← hRl]; exact ah.new w.drew 104 ROW
 have hb1:Below w.heap.size w W1:=by rw [hW1]; exact ((Below.refl w.heap.size w).drew).alloc (Nat.le_refl _) _
 have hLg:g < w.heap.size:=hL.lt
 have hLx:gx < w.heap.size:=hx.lt
 clear hW1 hRl ROW
 have hlen:(xs.take (i * 2)++Z).length=G * 2:=by
  rw [List.length_append,List.length_take,hZl,hxl,Nat.min_eq_left hik,← Nat.add_mul,← Nat.add_mul]; congr 1; omega
 have hGk:(n+1) * 2≤G * 2:=Nat.mul_le_mul_right _ hGn
 have hnk:(n+1) * 2=n * 2+2:=Nat.succ_mul n 2
 have HL0:=Lib.hid LN; clear LN
 have HF0:Hid (i * 2+r.enc.length≤(xs.take (i * 2)++Z).length):=by unfold Hid; rw [ap.enc_len,hlen]; omega
 have HX1:Hid (∀ j v,r.enc[j]?=some v→W1.cell? ((⟨gx,0,none⟩ : Addr).add j)=some v):=fun j u hj=>by rw [cd,Nat.zero_add,(hx.below hb1 hLx).cell]; exact hj
 have HE1:Hid (∀ v ∈ r.enc,v.oneCell'=true):=by unfold Hid; simp [ap.enc,Value.oneCell']
 have HE2:Hid (∀ v ∈ xs.drop (i * 2),v.oneCell'=true):=fun v hv=>h1 v (List.mem_of_mem_drop hv)
 have HC:Hid (∀ j u,xs[j]?=some u→W1.cell? ⟨g,j,none⟩=some u):=fun j u hu=>(hb1.cell hLg).trans (hcell j u hu)
 have HLn:Hid ((xs.take (i * 2)++Z).length=G * 2):=hlen
 have HXL:=Lib.hid hxl
 have HDL:Hid ((xs.drop (i * 2)).length=(n - i) * 2):=by unfold Hid; rw [List.length_drop,hxl,Nat.sub_mul]
 have hGi : ¬ (G=i):=by omega
 have hGi1 : ¬ (G=i+1):=by omega
 have hni : ¬ (n=i):=by omega
 have hz2 : ¬ ((i:Int)=(n:Int)):=by omega
 have hz3:(n:Int) < (n:Int)+1:=by omega
 have hmin1:Nat.min 1 (n+1 - i)=1:=by simp only [Nat.min_def]; split <;> omega
 have hmin2:Nat.min (n - i) (n - i)=n - i:=Nat.min_self _
 have hw1:IntKind.i64.wrap ((i:Int)+1)=(i:Int)+1:=by rw [IntKind.wrap_i64]; omega
 have hb1' : (0:Int)≤(i:Int)+1:=by omega
 have hin:i≤n:=by omega
 have HR:=hrz
 clear hrz hcell hL h1 hx hlen hxl hik2 hkk hsz
 go_enter Tryz.func214,Tryz.ntmps214
 go_wp2_with (first
  | (at_builtin; refine Lib.wpList_append_run _ rfl _ _ 37 3 rfl _ _ rfl rfl _ _ HR ?_)
  | (with_reducible show wpList _ _ _ (Oper.mk (some 45) _ _ _ _ _ :: _) _ _; refine ck rfl _ _ 37 rfl 104 104 2 w.heap.size (i * 2) (n+1 - i) (G - i) ⟨gx,0,none⟩ 1 cx 1 r.enc _ rfl rfl Tryz.underlying37 ?u1 ?u2 (by rw [ap.enc_len]) HL0 HF0 HX1 HE1 ?_; rotate_right; intro W2 HL2 hg2))
 case u1=>rw [hi0]; simp [hzs]
 case u2=>exact hmin1
 have hWs:w.heap.size≤W1.heap.size:=hb1.size
 have hW1g:w.heap.size < W1.heap.size:=HL0.out.lt
 have LG2:∀ j u,xs[j]?=some u→W2.cell? ⟨g,j,none⟩=some u:=fun j u hu=>(iA hg2 ⟨g,j,none⟩ (by simp only; omega) (by simp only; intro e; injection e with e; omega)).trans (HC.out j u hu)
 have HL2' : Hid (ah W2.drew w.heap.size 104 (aU (xs.take (i * 2)++Z) (i * 2) r.enc)):=HL2.out.drew
 have HF2:Hid ((i+1) * 2+(xs.drop (i * 2)).length≤(aU (xs.take (i * 2)++Z) (i * 2) r.enc).length):=by
  unfold Hid
  rw [bD _ _ _ HF0.out,HLn.out,HDL.out,← Nat.add_mul]
  exact Nat.mul_le_mul_right _ (by omega)
 have HX2:Hid (∀ j v,(xs.drop (i * 2))[j]?=some v→W2.drew.cell? ((⟨g,i * 2,none⟩ : Addr).add j)=some v):=fun j u hj=>by
  rw [cd]; exact LG2 _ u (by rwa [List.getElem?_drop] at hj)
 clear LG2 HX1
 go_still_tail 8,(by kernel_rfl)
 change wpList _ _ _ _ _ W2.drew
 go_wp2_with (with_reducible show wpList _ _ _ (Oper.mk (some 54) _ _ _ _ _ :: _) _ _; refine ck rfl _ _ 37 rfl 104 104 2 w.heap.size ((i+1) * 2) (n - i) (G - (i+1)) ⟨g,i * 2,none⟩ (n - i) (n - i) (n - i) (xs.drop (i * 2)) _ rfl rfl Tryz.underlying37 ?v3 hmin2 HDL.out HL2' HF2 HX2 HE2 ?_; rotate_right; intro W3 HL3 hg3)
 case v3=>rw [hi0]; simp [hzs]
 go_ret
 have hw3:Below w.heap.size w W3:=((hb1.grown hg2 hWs (by rintro _ ⟨⟩; exact Nat.le_refl _)).drew).grown hg3 (by have:=hg2.size; simp; omega) (by rintro _ ⟨⟩; exact Nat.le_refl _)
 refine ⟨_,rfl,⟨?_,.inr ⟨w.heap.size,G,(aU (aU (xs.take (i * 2)++Z) (i * 2) r.enc) ((i+1) * 2) (xs.drop (i * 2))).toArray,rfl,hB,HL3.out,hGn,hG63, ?_, ?_⟩⟩,⟨hw3.os,hw3.tape,hw3.output,hw3.size,fun j hj _=>hw3.block j hj⟩⟩
 ·rw [List.length_append,List.length_append,List.length_take,ap.enc_len,HDL.out,HXL.out,Nat.sub_mul]; omega
 ·rw [List.size_toArray,bD _ _ _ HF2.out,bD _ _ _ HF0.out,HLn.out]
 ·show List.take _ (aU _ _ _)=_
  exact lA xs r.enc Z i 2 n (ap.enc_len r) HXL.out hin (by rw [hZl,← Nat.add_mul,← Nat.add_mul]; exact Nat.mul_le_mul_right _ (by omega))
set_option maxRecDepth 100000 in
set_option maxHeartbeats 4000000 in
theorem nV (B g n cap:Nat) (cur:Array Value) (xs:List Value) (w:World) (hL:ah w g 104 cur.toList) (hcs:cur.size=cap * 2) (hroom:n+1≤cap) (hcm:cap≤maxLen) (hcur:cur.toList.take (n * 2)=xs) (i:Nat) (hi:i < n) (hn:n≤1000000) (r:ap) (gx cx:Nat) (hx:ah w gx 104 r.enc) (hne:gx ≠ g) (hB:B≤g) (h1:∀ u ∈ xs,u.oneCell'=true) :
  Calls Tryz.prog 214 #[F (some ⟨g,0,none⟩) n cap,O U i,F (some ⟨gx,0,none⟩) 1 cx] w fun e w'=>∃ v',e=.returned v'∧w'.ownsRow B 104 2 v' (n+1) (xs.take (i * 2)++r.enc++xs.drop (i * 2))∧w.grownBy w' (some g):=by
 have mixed:Tryz.prog.follows .mixedOrders=true:=by kernel_rfl
 obtain ⟨i0,hi0,hz0,hzs,hzb⟩:=info_parts dw
 have hnk:n * 2≤cap * 2:=Nat.mul_le_mul_right _ (by omega)
 have hnk1:(n+1) * 2≤cap * 2:=Nat.mul_le_mul_right _ hroom
 have hcl:cur.toList.length=cap * 2:=by rw [Array.length_toList,hcs]
 have hxl:xs.length=n * 2:=by rw [← hcur,List.length_take,hcl]; omega
 have hik:i * 2≤n * 2:=Nat.mul_le_mul_right _ (by omega)
 have hcell:∀ j u,xs[j]?=some u→w.cell? ⟨g,j,none⟩=some u:=fun j u hu=>by
  rw [hL.cell]
  rw [← hcur,List.getElem?_take] at hu
  split at hu
  ·exact hu
  ·cases hu
 have hov:∀ ob lb cb,(callFunc 233 #[F (some ⟨gx,0,none⟩) 1 cx,F (some ⟨g,ob,none⟩) lb cb]).run Tryz.prog w=.ok (.value (.bool false)) w:=fun ob lb cb =>
  ig w 233 Tryz.f233 37 4 104 (by kernel_rfl) (by kernel_rfl) (by kernel_rfl) (by kernel_rfl) (by kernel_rfl) Tryz.underlying37 2 Tryz.sizeOf104 gx g 0 ob 1 cx lb cb hne _ _ _ _ hx hL (by rw [hcl]; omega)
 have hc63:cap≤9223372036854775807:=by unfold maxLen at hcm; omega
 have HL0:=Lib.hid hL
 have HE1:Hid (∀ v ∈ r.enc,v.oneCell'=true):=by unfold Hid; simp [ap.enc,Value.oneCell']
 have HE2:Hid (∀ v ∈ xs.drop (i * 2),v.oneCell'=true):=fun v hv=>h1 v (List.mem_of_mem_drop hv)
 have HXL:=Lib.hid hxl
 have HCL:=Lib.hid hcl
 have HCU:=Lib.hid hcur
 have HCM:=Lib.hid hcm
 have HDL:Hid ((xs.drop (i * 2)).length=(n - i) * 2):=by unfold Hid; rw [List.length_drop,hxl,Nat.sub_mul]
 have HFA:Hid ((i+1) * 2+(xs.drop (i * 2)).length≤cur.toList.length):=by
  unfold Hid; rw [HDL.out,hcl,← Nat.add_mul]; exact Nat.mul_le_mul_right _ (by omega)
 have HXA:Hid (∀ j v,(xs.drop (i * 2))[j]?=some v→w.drew.cell? ((⟨g,i * 2,none⟩ : Addr).add j)=some v):=fun j u hj=>by
  rw [cd]; exact hcell _ u (by rwa [List.getElem?_drop] at hj)
 have HLA:Hid (ah w.drew g 104 cur.toList):=hL.drew
 have hxlt:gx < w.heap.size:=hx.lt
 have HX:=Lib.hid hx
 have hz1 : ¬ ((i:Int)=(n:Int)):=by omega
 have hz2 : ¬ ((cap:Int) < (n:Int)+1):=by omega
 have hci : ¬ (cap=i):=by omega
 have hci1 : ¬ (cap=i+1):=by omega
 have hin:i≤n:=by omega
 have hin1:i≤n+1:=by omega
 have hint:(i:Int)≤(n:Int)+1:=by omega
 have hw1:IntKind.i64.wrap ((i:Int)+1)=(i:Int)+1:=by rw [IntKind.wrap_i64]; omega
 have hb1' : (0:Int)≤(i:Int)+1:=by omega
 have hmin2:Nat.min (n+1 - i) (n - i)=n - i:=by simp only [Nat.min_def]; split <;> omega
 have hmin1:Nat.min 1 (n+1 - i)=1:=by simp only [Nat.min_def]; split <;> omega
 clear hcl hcur hcs hxl hL hx hcell h1 hcm
 go_enter Tryz.func214,Tryz.ntmps214
 go_wp2_with (simp only [hov])
 go_still_tail 8,(by kernel_rfl)
 change wpList _ _ _ _ _ w.drew
 go_wp2_with (first
  | (with_reducible show wpList _ _ _ (Oper.mk (some 77) _ _ _ _ _ :: _) _ _; refine ck rfl _ _ 37 rfl 104 104 2 g ((i+1) * 2) (n - i) (cap - (i+1)) ⟨g,i * 2,none⟩ (n+1 - i) (cap - i) (n - i) (xs.drop (i * 2)) _ rfl rfl Tryz.underlying37 ?v3 hmin2 HDL.out HLA HFA HXA HE2 ?_; rotate_right; intro W2 HL2 hg2)
  | (with_reducible show wpList _ _ _ (Oper.mk (some 82) _ _ _ _ _ :: _) _ _; refine ck rfl _ _ 37 rfl 104 104 2 g (i * 2) (n+1 - i) (cap - i) ⟨gx,0,none⟩ 1 cx 1 r.enc _ rfl rfl Tryz.underlying37 ?v4 hmin1 ?v5 HL2 ?v6 ?v7 HE1 ?_; rotate_right; intro W3 HL3 hg3))
 case v3=>rw [hi0]; simp [hzs]
 case v4=>rw [hi0]; simp [hzs]
 case v5=>rw [ap.enc_len]
 case v6=>unfold Hid; rw [bD _ _ _ HFA.out,HCL.out,ap.enc_len]; omega
 case v7=>exact fun j u hj=>by rw [cd,Nat.zero_add,(iA hg2 ⟨gx,j,none⟩ hxlt (by simp only; intro e; injection e with e; exact hne e)),HX.out.drew.cell]; exact hj
 have HF6:Hid (i * 2+r.enc.length≤(aU cur.toList ((i+1) * 2) (xs.drop (i * 2))).length):=by unfold Hid; rw [bD _ _ _ HFA.out,HCL.out,ap.enc_len]; omega
 go_ret
 have e1:(i+1) * 2=i * 2+2:=Nat.succ_mul i 2
 refine ⟨_,rfl,⟨?_,.inr ⟨g,cap,(aU (aU cur.toList ((i+1) * 2) (xs.drop (i * 2))) (i * 2) r.enc).toArray,rfl,hB,HL3.out,hroom,HCM.out, ?_, ?_⟩⟩, ?_⟩
 ·rw [List.length_append,List.length_append,List.length_take,ap.enc_len,HDL.out,HXL.out,Nat.sub_mul]; omega
 ·rw [List.size_toArray,bD _ _ _ HF6.out,bD _ _ _ HFA.out,HCL.out]
 ·show List.take _ (aU _ _ _)=_
  rw [e1]
  exact jC cur.toList xs r.enc i 2 n (ap.enc_len r) HXL.out hin HCU.out (by rw [HCL.out]; exact hnk1)
 ·exact ⟨hg3.os.trans hg2.os,hg3.tape.trans hg2.tape,hg3.output.trans hg2.output,Nat.le_trans hg2.size hg3.size,fun j hj hq=>(hg3.block j (Nat.lt_of_lt_of_le hj hg2.size) hq).trans (hg2.block j hj hq)⟩
theorem oW (B:Nat) (v:Value) (n:Nat) (xs:List Value) (w:World) (hown:w.ownsRow B 104 2 v n xs) (hn:n≤1000000) (i:Nat) (hi:i≤n) (r:ap) (gx cx:Nat) (hx:ah w gx 104 r.enc) (hne:v.ownBlock ≠ some gx) (hB:B≤w.heap.size) (h1:∀ u ∈ xs,u.oneCell'=true) :
  Calls Tryz.prog 214 #[v,O U i,F (some ⟨gx,0,none⟩) 1 cx] w fun e w'=>∃ v',e=.returned v'∧w'.ownsRow B 104 2 v' (n+1) (xs.take (i * 2)++r.enc++xs.drop (i * 2))∧w.grownBy w' v.ownBlock:=by
 rcases Nat.lt_or_ge i n with hlt | hge
 ·obtain ⟨hl,⟨rfl,rfl⟩ | ⟨g,cap,cur,rfl,hg,hh,hc,hc',hcs,hct⟩⟩:=hown
  ·omega
  ·by_cases hcn:cap=n
   ·subst hcn
    exact nU B g cap cur xs w hh hcs hct i hlt hn r gx cx hx hB h1
   ·exact nV B g n cap cur xs w hh hcs (by omega) hc' hct i hlt hn r gx cx hx (fun e=>hne (by rw [e]; rfl)) hg h1
 ·have e:i=n:=by omega
  subst e
  have hl:=hown.1
  rw [List.take_of_length_le (by omega),List.drop_eq_nil_of_le (by omega),List.append_nil]
  exact oV B v i xs w hown hn r gx cx hx hB
set_option maxRecDepth 100000 in
set_option maxHeartbeats 2000000 in
theorem ki (cf:ae→Int) (tg:ae) (g:Nat) (lb:Array Value) (eg:∀ args w,(callFunc g args).run Tryz.prog w=.ok (.enter g args) w) (A:Option Addr) (c:Nat) (l:List ae) (w:World)
  (hf:∀ (t:ae) (p:an w.heap.size w),Calls Tryz.prog g (#[t.val,tg.val]++lb) p.val fun e w'=>e=.returned (O U (cf t))∧Below p.val.heap.size p.val w') (h:dS w w.heap.size A l) (hl:l.length≤1000000)
  (b:Nat) (hb:b≤l.length) (hlo:∀ i (h:i < l.length),i < b→cf l[i] < 0) (hhi:∀ i (h:i < l.length),b≤i→¬ cf l[i] < 0) (fd:Bool) (hfd:∀ h:b < l.length,fd=decide (cf l[b]=0)) (hfd' : b=l.length→fd=false) :
  Calls Tryz.prog 235 #[F A l.length c,tg.val,.func (.func g) #[] lb] w fun e w'=>e=.returned (.tuple #[O U b,.bool fd])∧Below w.heap.size w w':=by
 have b0:=(Below.refl w.heap.size w).alloc (Nat.le_refl _) (.cells #[O U tg.k,O U tg.p,O U tg.c] 147)
 have hL0:=ah.new w 147 #[O U tg.k,O U tg.p,O U tg.c]
 have HC:=Lib.hid hf; clear hf
 have HLO:=Lib.hid hlo; clear hlo
 have HHI:=Lib.hid hhi; clear hhi
 have HFD:=Lib.hid hfd; clear hfd
 have HFD':=Lib.hid hfd'; clear hfd'
 go_enter Tryz.func235,Tryz.ntmps235
 go_wp2
 have h0:=aY.up h b0 (Nat.le_refl _)
 generalize w.alloc (.cells #[O U tg.k,O U tg.p,O U tg.c] 147)=W at b0 hL0 h0 ⊢
 have hrd:=(show dS W W.heap.size A l from h0).el
 obtain ⟨d0,d1,d2⟩:=fl.of (r:=tg) hL0
 go_loopw [9,10] (fun s9 s10 wr=>∃ lo hi:Nat,s9=O U lo∧s10=O U hi∧lo≤b∧b≤hi∧hi≤l.length∧(∃ q:an W.heap.size W,wr=q.val)) (fun s9 s10 _=>(intOf s10).toNat - (intOf s9).toNat)
 case atStart=>exact ⟨0,l.length,rfl,rfl,Nat.zero_le _,hb,Nat.le_refl _,an.start _ _,rfl⟩
 case round =>
  obtain ⟨lo,hi,rfl,rfl,h1,h2,h3,⟨q,rfl⟩⟩:=hrel
  by_cases hlt:lo < hi
  ·have hm:(lo+hi) / 2 < l.length:=by omega
   obtain ⟨bb,off,rfl,hbb,hcell⟩:=hrd (by omega)
   obtain ⟨c0,c1,c2⟩:=hcell ((lo+hi) / 2) hm
   have k1:cf l[(lo+hi) / 2] < 0→(lo+hi) / 2+1≤b:=fun hv=>by
    rcases Nat.lt_or_ge ((lo+hi) / 2) b with h | h
    ·exact h
    ·have:=HHI.out _ hm h; omega
   have k2 : ¬ cf l[(lo+hi) / 2] < 0→b≤(lo+hi) / 2:=fun hv=>by
    rcases Nat.lt_or_ge ((lo+hi) / 2) b with h | h
    ·have:=HLO.out _ hm h; omega
    ·exact h
   obtain ⟨x,hxe⟩ : ∃ x,x=l[(lo+hi) / 2]:=⟨_,rfl⟩
   rw [← hxe] at c0 c1 c2 k1 k2
   have hcx:=fun p:an W.heap.size W=>HC.out x ⟨p.val,b0.trans (p.below.mono b0.size)⟩
   obtain ⟨V,hV⟩ : ∃ V,cf x=V:=⟨_,rfl⟩
   have HVV:Hid (Value.int .i64 (cf x)=O U V):=by rw [hV]; rfl
   rw [hV] at k1 k2
   have hX:=Lib.hid hV; clear hV
   clear hxe hcell hrd
   by_cases hv:V < 0
   ·have K:=k1 hv
    clear k1 k2
    go_wp2
    refine bf _ (by kernel_rfl) (by kernel_rfl) ?_
    repeat (any_goals (first | go_big_quiet_step ((with_reducible refine aQ HVV (Nat.le_refl _) (hcx _))) | (refine wpQuiet_step (fun K hK=>?_); go_simp; split <;> (refine hK _ ?_; clear hK K))))
    all_goals (refine wpQuiet_nil ?_; rintro _ ⟨q1,rfl⟩)
    all_goals go_wp2
    go_roundw
    case rel=>exact ⟨(lo+hi) / 2+1,hi,by go_num,rfl,K,h2,h3,⟨q1,rfl⟩⟩
    case measure=>simp [intOf]; omega
   ·have K:=k2 hv
    clear k1 k2
    go_wp2
    refine bf _ (by kernel_rfl) (by kernel_rfl) ?_
    repeat (any_goals (first | go_big_quiet_step ((with_reducible refine aQ HVV (Nat.le_refl _) (hcx _))) | (refine wpQuiet_step (fun K hK=>?_); go_simp; split <;> (refine hK _ ?_; clear hK K))))
    all_goals (refine wpQuiet_nil ?_; rintro _ ⟨q1,rfl⟩)
    all_goals go_wp2
    go_roundw
    case rel=>exact ⟨lo,(lo+hi) / 2,rfl,by go_num,h1,K,by omega,⟨q1,rfl⟩⟩
    case measure=>simp [intOf]; omega
  ·obtain rfl:hi=b:=by omega
   obtain rfl:lo=hi:=by omega
   by_cases hlb:lo < l.length
   ·obtain ⟨bb,off,rfl,hbb,hcell⟩:=hrd (by omega)
    obtain ⟨c0,c1,c2⟩:=hcell lo hlb
    have HE:=Lib.hid (HFD.out hlb)
    obtain ⟨x,hxe⟩ : ∃ x,x=l[lo]:=⟨_,rfl⟩
    rw [← hxe] at c0 c1 c2 HE
    have hcx:=fun p:an W.heap.size W=>HC.out x ⟨p.val,b0.trans (p.below.mono b0.size)⟩
    obtain ⟨V,hV⟩ : ∃ V,cf x=V:=⟨_,rfl⟩
    have HVV:Hid (Value.int .i64 (cf x)=O U V):=by rw [hV]; rfl
    rw [hV] at HE
    have hX:=Lib.hid hV; clear hV
    clear hxe hcell hrd
    by_cases hv:V=0
    ·have hv' : (V == 0)=true:=by simp [hv]
     have HV:Hid (fd=true):=by unfold Hid; rw [HE.out,decide_eq_true hv]
     clear hv
     go_wp2
     refine bf _ (by kernel_rfl) (by kernel_rfl) ?_
     repeat (any_goals (first | go_big_quiet_step ((with_reducible refine aQ HVV (Nat.le_refl _) (hcx _))) | (refine wpQuiet_step (fun K hK=>?_); go_simp; split <;> (refine hK _ ?_; clear hK K))))
     all_goals (refine wpQuiet_nil ?_; rintro _ ⟨q1,rfl⟩)
     all_goals go_wp2
     go_ret2
     exact ⟨by rw [HV.out]; rfl,b0.trans (q1.below.mono b0.size)⟩
    ·have hv' : (V == 0)=false:=by simp [hv]
     have HV:Hid (fd=false):=by unfold Hid; rw [HE.out,decide_eq_false hv]
     clear hv
     go_wp2
     refine bf _ (by kernel_rfl) (by kernel_rfl) ?_
     repeat (any_goals (first | go_big_quiet_step ((with_reducible refine aQ HVV (Nat.le_refl _) (hcx _))) | (refine wpQuiet_step (fun K hK=>?_); go_simp; split <;> (refine hK _ ?_; clear hK K))))
     all_goals (refine wpQuiet_nil ?_; rintro _ ⟨q1,rfl⟩)
     all_goals go_wp2
     go_ret2
     exact ⟨by rw [HV.out]; rfl,b0.trans (q1.below.mono b0.size)⟩
   ·have HV:=Lib.hid (HFD'.out (by omega))
    clear hrd
    have hd:decide (lo < l.length)=false:=decide_eq_false hlb
    go_wp2
    refine bf _ (by kernel_rfl) (by kernel_rfl) ?_
    repeat (any_goals (first | go_big_quiet_step ((fail)) | (refine wpQuiet_step (fun K hK=>?_); go_simp; split <;> (refine hK _ ?_; clear hK K))))
    all_goals (refine wpQuiet_nil ?_; rintro _ ⟨q1,rfl⟩)
    all_goals go_wp2
    go_ret2
    exact ⟨by rw [HV.out]; rfl,b0.trans (q1.below.mono b0.size)⟩
theorem ex {l:List ae} : ∀ u ∈ l.flatMap ae.enc,u.oneCell'=true:=by
 intro u hu
 obtain ⟨r,_,hr⟩:=List.mem_flatMap.1 hu
 simp only [ae.enc,List.mem_cons,List.not_mem_nil,or_false] at hr
 rcases hr with rfl | rfl | rfl <;> rfl
theorem lS (A:Option Addr) (c:Nat) (l:List ae) (w:World) (h:dS w w.heap.size A l) (hn:l.length≤1000000) :
  Calls Tryz.prog 148 #[F A l.length c] w fun e w'=>∃ A' c',e=.returned (F A' l.length c')∧w'.ownsRow w.heap.size 147 3 (F A' l.length c') l.length (l.flatMap ae.enc)∧Below w.heap.size w w':=by
 rcases A with _ | ad
 ·have h0:l.length=0:=by
   rcases Nat.eq_zero_or_pos l.length with h0 | h0
   ·exact h0
   ·obtain ⟨_,_,h1,_⟩:=h.at_ h0; cases h1
  obtain rfl:l = []:=List.eq_nil_of_length_eq_zero h0
  have hq:=fun W=>Lib.run_eql_slice_nil (P:=Tryz.prog) W 38 147 none 0 c 0 0 Tryz.underlying38
  go_enter Tryz.func148,Tryz.ntmps148
  go_wp2_with fail
  go_ret
  exact ⟨none,0,rfl,⟨by simp,.inl ⟨rfl,rfl⟩⟩,Below.refl _ _⟩
 ·have HO:Hid ((w.alloc (.cells #[] 147)).ownsRow w.heap.size 147 3 (F (some ⟨w.heap.size,0,none⟩) 0 0) 0 []):=cP (ah.new w 147 #[]) (Nat.le_refl _)
  have b1:=(Below.refl w.heap.size w).alloc (Nat.le_refl _) (.cells #[] 147)
  have HR:=Lib.hid (aY.below h b1)
  have hq:=fun W=>Lib.run_eql_slice_nil (P:=Tryz.prog) W 38 147 (some ad) l.length c 0 0 Tryz.underlying38
  go_enter Tryz.func148,Tryz.ntmps148
  go_wp2_with (at_builtin; refine gu rfl _ _ 38 rfl 147 _ 3 24 Tryz.underlying38 dM rfl (by omega) (by omega) w.heap.size _ 0 [] rfl HO w.heap.size (some ad) l.length c (l.flatMap ae.enc) rfl HR ex (by omega) b1.size ?_; intro v' w1 hown _ hb2 _)
  go_ret
  have ho:=hown.out
  rw [Nat.zero_add,List.nil_append] at ho
  obtain ⟨A',c',rfl⟩:=av ho
  exact ⟨A',c',rfl,ho,b1.trans hb2⟩
set_option maxRecDepth 100000 in
set_option maxHeartbeats 4000000 in
theorem m6 (B:Nat) (v:Value) (n:Nat) (xs:List Value) (w:World) (hown:w.ownsRow B 147 3 v n xs) (hn:n≤1000000) (r:ae) (gx cx:Nat) (hx:ah w gx 147 r.enc) (hB:B≤w.heap.size) :
  Calls Tryz.prog 236 #[v,O U n,F (some ⟨gx,0,none⟩) 1 cx] w fun e w'=>∃ v',e=.returned v'∧w'.ownsRow B 147 3 v' (n+1) (xs++r.enc)∧w.grownBy w' v.ownBlock:=by
 obtain ⟨i0,hi0,hz0,hzs,hzb⟩:=info_parts dM
 obtain ⟨v',w',hrun,h2,h3,_,_⟩:=run_append_own_at (P:=Tryz.prog) w B 38 38 147 i0 _ 3 24 Tryz.underlying38 hi0 hz0 hzs hzb rfl (by omega) v n xs hown ⟨gx,0,none⟩ 1 cx r.enc rfl (fun j u hj=>by rw [cd,Nat.zero_add,hx.cell]; exact hj) (by simp [ae.enc,Value.oneCell']) (by unfold maxLen; omega) (by omega) hB
 have HO:=Lib.hid h2; clear h2
 have HG:=Lib.hid h3; clear h3
 have HR:=Lib.hid hrun; clear hrun
 obtain ⟨_,⟨rfl,rfl⟩ | ⟨g,cap,cur,rfl,hg,hh,hc,hc',_,_⟩⟩:=hown
 ·go_enter Tryz.func236,Tryz.ntmps236
  go_wp2_with (at_builtin; refine Lib.wpList_append_run _ rfl _ _ 38 38 rfl _ _ rfl rfl v' w' HR.out ?_)
  go_ret
  exact ⟨v',rfl,HO.out,HG.out⟩
 ·have hc2:cap≤9223372036854775807:=by unfold maxLen at hc'; omega
  clear hc'
  by_cases hcn:cap=n
  all_goals
   go_enter Tryz.func236,Tryz.ntmps236
   go_wp2_with (at_builtin; refine Lib.wpList_append_run _ rfl _ _ 38 38 rfl _ _ rfl rfl v' w' HR.out ?_)
   go_ret
   exact ⟨v',rfl,HO.out,HG.out⟩
set_option maxRecDepth 100000 in
set_option maxHeartbeats 4000000 in
theorem mr (B g n:Nat) (cur:Array Value) (xs:List Value) (w:World) (hL:ah w g 147 cur.toList) (hcs:cur.size=n * 3) (hcur:cur.toList.take (n * 3)=xs) (i:Nat) (hi:i < n) (hn:n≤1000000) (r:ae) (gx cx:Nat) (hx:ah w gx 147 r.enc) (hB:B≤w.heap.size) (h1:∀ u ∈ xs,u.oneCell'=true) :
  Calls Tryz.prog 236 #[F (some ⟨g,0,none⟩) n n,O U i,F (some ⟨gx,0,none⟩) 1 cx] w fun e w'=>∃ v',e=.returned v'∧w'.ownsRow B 147 3 v' (n+1) (xs.take (i * 3)++r.enc++xs.drop (i * 3))∧w.grownBy w' (some g):=by
 have mixed:Tryz.prog.follows .mixedOrders=true:=by kernel_rfl
 obtain ⟨i0,hi0,hz0,hzs,hzb⟩:=info_parts dM
 have hxl:xs.length=n * 3:=by rw [← hcur,List.length_take,Array.length_toList,hcs,Nat.min_self]
 have hik:i * 3≤n * 3:=Nat.mul_le_mul_right _ (by omega)
 have hsz:(Tryz.prog.info? 147).map (·.size)=some 3:=by rw [hi0]; simp [hzs]
 have hkk:(n:Int)+1 - (i:Int)=((n+1 - i:Nat):Int):=by omega
 have hik2:i+(n+1 - i)=n+1:=by omega
 have hcell:∀ j u,xs[j]?=some u→w.cell? ⟨g,j,none⟩=some u:=fun j u hu=>by
  rw [hL.cell]
  rw [← hcur,List.getElem?_take] at hu
  split at hu
  ·exact hu
  ·cases hu
 have hold:(Builtin.firstCells i0.size i (F (some ⟨g,0,none⟩) i n)).run Tryz.prog w.drew=.ok (xs.take (i * 3)).toArray w.drew:=by
  rw [hzs]
  exact run_firstCells_some w.drew 3 i ⟨g,0,none⟩ i n (xs.take (i * 3)) (by rw [List.length_take]; omega) (fun j u hj=>by
   rw [cd,Nat.zero_add]
   rw [List.getElem?_take] at hj
   split at hj
   ·exact hcell j u hj
   ·cases hj)
 have hrz:=Lib.run_append_grow_zeros (P:=Tryz.prog) w 38 3 38 147 i0 _ .i64 .i64 Tryz.underlying38 Tryz.underlying3 hi0 hz0 (some ⟨g,0,none⟩) i n (xs.take (i * 3)) hold (n+1 - i) (by omega) (by omega) (by omega) (by omega) (by rw [hzb]; omega) (by rw [hzb,hik2]; exact growslice_fits (by omega) (by omega))
 rw [hik2,← hkk] at hrz
 obtain ⟨G,hG⟩ : ∃ G,G=grownCap w (n+1) n 147:=⟨_,rfl⟩
 have hGn:n+1≤G:=by rw [hG]; exact grownCap_ge w _ _ _
 have hG63:G≤maxLen:=by rw [hG]; exact grownCap_le_maxLen w (n+1) n 147 (by unfold maxLen; omega)
 have hG64:G≤9223372036854775807:=by unfold maxLen at hG63; omega
 rw [← hG] at hrz
 obtain ⟨Z,hZ⟩ : ∃ Z:List Value,Z=(Builtin.zeroCells (Value.agg #[O U 0,O U 0,O U 0]).cells (n+1 - i)++Builtin.zeroCells (Value.agg #[O U 0,O U 0,O U 0]).cells (G - (n+1))).toList:=⟨_,rfl⟩
 have hZl:Z.length=(n+1 - i) * 3+(G - (n+1)) * 3:=by rw [hZ,Array.length_toList,Array.size_append,size_zeroCells,size_zeroCells]; rfl
 obtain ⟨ROW,hROW⟩ : ∃ ROW:Array Value,ROW=(xs.take (i * 3)).toArray++Builtin.zeroCells (Value.agg #[O U 0,O U 0,O U 0]).cells (n+1 - i)++Builtin.zeroCells (Value.agg #[O U 0,O U 0,O U 0]).cells (G - (n+1)):=⟨_,rfl⟩
 have hRl:ROW.toList=xs.take (i * 3)++Z:=by rw [hROW,hZ]; simp
 rw [← hROW] at hrz
 clear hROW hZ hG hold hcs hcur
 obtain ⟨W1,hW1⟩ : ∃ W1,W1=w.drew.alloc (.cells ROW 147):=⟨_,rfl⟩
 rw [← hW1] at hrz
 have LN:ah W1 w.heap.size 147 (xs.take (i * 3)++Z):=by rw [hW1,← hRl]; exact ah.new w.drew 147 ROW
 have hb1:Below w.heap.size w W1:=by rw [hW1]; exact ((Below.refl w.heap.size w).drew).alloc (Nat.le_refl _) _
 have hLg:g < w.heap.size:=hL.lt
 have hLx:gx < w.heap.size:=hx.lt
 clear hW1 hRl ROW
 have hlen:(xs.take (i * 3)++Z).length=G * 3:=by
  rw [List.length_append,List.length_take,hZl,hxl,Nat.min_eq_left hik,← Nat.add_mul,← Nat.add_mul]; congr 1; omega
 have hGk:(n+1) * 3≤G * 3:=Nat.mul_le_mul_right _ hGn
 have hnk:(n+1) * 3=n * 3+3:=Nat.succ_mul n 3
 have HL0:=Lib.hid LN; clear LN
 have HF0:Hid (i * 3+r.enc.length≤(xs.take (i * 3)++Z).length):=by unfold Hid; rw [ae.enc_len,hlen]; omega
 have HX1:Hid (∀ j v,r.enc[j]?=some v→W1.cell? ((⟨gx,0,none⟩ : Addr).add j)=some v):=fun j u hj=>by rw [cd,Nat.zero_add,(hx.below hb1 hLx).cell]; exact hj
 have HE1:Hid (∀ v ∈ r.enc,v.oneCell'=true):=by unfold Hid; simp [ae.enc,Value.oneCell']
 have HE2:Hid (∀ v ∈ xs.drop (i * 3),v.oneCell'=true):=fun v hv=>h1 v (List.mem_of_mem_drop hv)
 have HC:Hid (∀ j u,xs[j]?=some u→W1.cell? ⟨g,j,none⟩=some u):=fun j u hu=>(hb1.cell hLg).trans (hcell j u hu)
 have HLn:Hid ((xs.take (i * 3)++Z).length=G * 3):=hlen
 have HXL:=Lib.hid hxl
 have HDL:Hid ((xs.drop (i * 3)).length=(n - i) * 3):=by unfold Hid; rw [List.length_drop,hxl,Nat.sub_mul]
 have hGi : ¬ (G=i):=by omega
 have hGi1 : ¬ (G=i+1):=by omega
 have hni : ¬ (n=i):=by omega
 have hz2 : ¬ ((i:Int)=(n:Int)):=by omega
 have hz3:(n:Int) < (n:Int)+1:=by omega
 have hmin1:Nat.min 1 (n+1 - i)=1:=by simp only [Nat.min_def]; split <;> omega
 have hmin2:Nat.min (n - i) (n - i)=n - i:=Nat.min_self _
 have hw1:IntKind.i64.wrap ((i:Int)+1)=(i:Int)+1:=by rw [IntKind.wrap_i64]; omega
 have hb1' : (0:Int)≤(i:Int)+1:=by omega
 have hin:i≤n:=by omega
 have HR:=hrz
 clear hrz hcell hL h1 hx hlen hxl hik2 hkk hsz
 go_enter Tryz.func236,Tryz.ntmps236
 go_wp2_with (first
  | (at_builtin; refine Lib.wpList_append_run _ rfl _ _ 38 3 rfl _ _ rfl rfl _ _ HR ?_)
  | (with_reducible show wpList _ _ _ (Oper.mk (some 45) _ _ _ _ _ :: _) _ _; refine ck rfl _ _ 38 rfl 147 147 3 w.heap.size (i * 3) (n+1 - i) (G - i) ⟨gx,0,none⟩ 1 cx 1 r.enc _ rfl rfl Tryz.underlying38 ?u1 ?u2 (by rw [ae.enc_len]) HL0 HF0 HX1 HE1 ?_; rotate_right; intro W2 HL2 hg2))
 case u1=>rw [hi0]; simp [hzs]
 case u2=>exact hmin1
 have hWs:w.heap.size≤W1.heap.size:=hb1.size
 have hW1g:w.heap.size < W1.heap.size:=HL0.out.lt
 have LG2:∀ j u,xs[j]?=some u→W2.cell? ⟨g,j,none⟩=some u:=fun j u hu=>(iA hg2 ⟨g,j,none⟩ (by simp only; omega) (by simp only; intro e; injection e with e; omega)).trans (HC.out j u hu)
 have HL2' : Hid (ah W2.drew w.heap.size 147 (aU (xs.take (i * 3)++Z) (i * 3) r.enc)):=HL2.out.drew
 have HF2:Hid ((i+1) * 3+(xs.drop (i * 3)).length≤(aU (xs.take (i * 3)++Z) (i * 3) r.enc).length):=by
  unfold Hid
  rw [bD _ _ _ HF0.out,HLn.out,HDL.out,← Nat.add_mul]
  exact Nat.mul_le_mul_right _ (by omega)
 have HX2:Hid (∀ j v,(xs.drop (i * 3))[j]?=some v→W2.drew.cell? ((⟨g,i * 3,none⟩ : Addr).add j)=some v):=fun j u hj=>by
  rw [cd]; exact LG2 _ u (by rwa [List.getElem?_drop] at hj)
 clear LG2 HX1
 go_still_tail 8,(by kernel_rfl)
 change wpList _ _ _ _ _ W2.drew
 go_wp2_with (with_reducible show wpList _ _ _ (Oper.mk (some 54) _ _ _ _ _ :: _) _ _; refine ck rfl _ _ 38 rfl 147 147 3 w.heap.size ((i+1) * 3) (n - i) (G - (i+1)) ⟨g,i * 3,none⟩ (n - i) (n - i) (n - i) (xs.drop (i * 3)) _ rfl rfl Tryz.underlying38 ?v3 hmin2 HDL.out HL2' HF2 HX2 HE2 ?_; rotate_right; intro W3 HL3 hg3)
 case v3=>rw [hi0]; simp [hzs]
 go_ret
 have hw3:Below w.heap.size w W3:=((hb1.grown hg2 hWs (by rintro _ ⟨⟩; exact Nat.le_refl _)).drew).grown hg3 (by have:=hg2.size; simp; omega) (by rintro _ ⟨⟩; exact Nat.le_refl _)
 refine ⟨_,rfl,⟨?_,.inr ⟨w.heap.size,G,(aU (aU (xs.take (i * 3)++Z) (i * 3) r.enc) ((i+1) * 3) (xs.drop (i * 3))).toArray,rfl,hB,HL3.out,hGn,hG63, ?_, ?_⟩⟩,⟨hw3.os,hw3.tape,hw3.output,hw3.size,fun j hj _=>hw3.block j hj⟩⟩
 ·rw [List.length_append,List.length_append,List.length_take,ae.enc_len,HDL.out,HXL.out,Nat.sub_mul]; omega
 ·rw [List.size_toArray,bD _ _ _ HF2.out,bD _ _ _ HF0.out,HLn.out]
 ·show List.take _ (aU _ _ _)=_
  exact lA xs r.enc Z i 3 n (ae.enc_len r) HXL.out hin (by rw [hZl,← Nat.add_mul,← Nat.add_mul]; exact Nat.mul_le_mul_right _ (by omega))
set_option maxRecDepth 100000 in
set_option maxHeartbeats 4000000 in
theorem mt (B g n cap:Nat) (cur:Array Value) (xs:List Value) (w:World) (hL:ah w g 147 cur.toList) (hcs:cur.size=cap * 3) (hroom:n+1≤cap) (hcm:cap≤maxLen) (hcur:cur.toList.take (n * 3)=xs) (i:Nat) (hi:i < n) (hn:n≤1000000) (r:ae) (gx cx:Nat) (hx:ah w gx 147 r.enc) (hne:gx ≠ g) (hB:B≤g) (h1:∀ u ∈ xs,u.oneCell'=true) :
  Calls Tryz.prog 236 #[F (some ⟨g,0,none⟩) n cap,O U i,F (some ⟨gx,0,none⟩) 1 cx] w fun e w'=>∃ v',e=.returned v'∧w'.ownsRow B 147 3 v' (n+1) (xs.take (i * 3)++r.enc++xs.drop (i * 3))∧w.grownBy w' (some g):=by
 have mixed:Tryz.prog.follows .mixedOrders=true:=by kernel_rfl
 obtain ⟨i0,hi0,hz0,hzs,hzb⟩:=info_parts dM
 have hnk:n * 3≤cap * 3:=Nat.mul_le_mul_right _ (by omega)
 have hnk1:(n+1) * 3≤cap * 3:=Nat.mul_le_mul_right _ hroom
 have hcl:cur.toList.length=cap * 3:=by rw [Array.length_toList,hcs]
 have hxl:xs.length=n * 3:=by rw [← hcur,List.length_take,hcl]; omega
 have hik:i * 3≤n * 3:=Nat.mul_le_mul_right _ (by omega)
 have hcell:∀ j u,xs[j]?=some u→w.cell? ⟨g,j,none⟩=some u:=fun j u hu=>by
  rw [hL.cell]
  rw [← hcur,List.getElem?_take] at hu
  split at hu
  ·exact hu
  ·cases hu
 have hov:∀ ob lb cb,(callFunc 246 #[F (some ⟨gx,0,none⟩) 1 cx,F (some ⟨g,ob,none⟩) lb cb]).run Tryz.prog w=.ok (.value (.bool false)) w:=fun ob lb cb =>
  ig w 246 Tryz.f246 38 4 147 (by kernel_rfl) (by kernel_rfl) (by kernel_rfl) (by kernel_rfl) (by kernel_rfl) Tryz.underlying38 3 Tryz.sizeOf147 gx g 0 ob 1 cx lb cb hne _ _ _ _ hx hL (by rw [hcl]; omega)
 have hc63:cap≤9223372036854775807:=by unfold maxLen at hcm; omega
 have HL0:=Lib.hid hL
 have HE1:Hid (∀ v ∈ r.enc,v.oneCell'=true):=by unfold Hid; simp [ae.enc,Value.oneCell']
 have HE2:Hid (∀ v ∈ xs.drop (i * 3),v.oneCell'=true):=fun v hv=>h1 v (List.mem_of_mem_drop hv)
 have HXL:=Lib.hid hxl
 have HCL:=Lib.hid hcl
 have HCU:=Lib.hid hcur
 have HCM:=Lib.hid hcm
 have HDL:Hid ((xs.drop (i * 3)).length=(n - i) * 3):=by unfold Hid; rw [List.length_drop,hxl,Nat.sub_mul]
 have HFA:Hid ((i+1) * 3+(xs.drop (i * 3)).length≤cur.toList.length):=by
  unfold Hid; rw [HDL.out,hcl,← Nat.add_mul]; exact Nat.mul_le_mul_right _ (by omega)
 have HXA:Hid (∀ j v,(xs.drop (i * 3))[j]?=some v→w.drew.cell? ((⟨g,i * 3,none⟩ : Addr).add j)=some v):=fun j u hj=>by
  rw [cd]; exact hcell _ u (by rwa [List.getElem?_drop] at hj)
 have HLA:Hid (ah w.drew g 147 cur.toList):=hL.drew
 have hxlt:gx < w.heap.size:=hx.lt
 have HX:=Lib.hid hx
 have hz1 : ¬ ((i:Int)=(n:Int)):=by omega
 have hz2 : ¬ ((cap:Int) < (n:Int)+1):=by omega
 have hci : ¬ (cap=i):=by omega
 have hci1 : ¬ (cap=i+1):=by omega
 have hin:i≤n:=by omega
 have hin1:i≤n+1:=by omega
 have hint:(i:Int)≤(n:Int)+1:=by omega
 have hw1:IntKind.i64.wrap ((i:Int)+1)=(i:Int)+1:=by rw [IntKind.wrap_i64]; omega
 have hb1' : (0:Int)≤(i:Int)+1:=by omega
 have hmin2:Nat.min (n+1 - i) (n - i)=n - i:=by simp only [Nat.min_def]; split <;> omega
 have hmin1:Nat.min 1 (n+1 - i)=1:=by simp only [Nat.min_def]; split <;> omega
 clear hcl hcur hcs hxl hL hx hcell h1 hcm
 go_enter Tryz.func236,Tryz.ntmps236
 go_wp2_with (simp only [hov])
 go_still_tail 8,(by kernel_rfl)
 change wpList _ _ _ _ _ w.drew
 go_wp2_with (first
  | (with_reducible show wpList _ _ _ (Oper.mk (some 77) _ _ _ _ _ :: _) _ _; refine ck rfl _ _ 38 rfl 147 147 3 g ((i+1) * 3) (n - i) (cap - (i+1)) ⟨g,i * 3,none⟩ (n+1 - i) (cap - i) (n - i) (xs.drop (i * 3)) _ rfl rfl Tryz.underlying38 ?v3 hmin2 HDL.out HLA HFA HXA HE2 ?_; rotate_right; intro W2 HL2 hg2)
  | (with_reducible show wpList _ _ _ (Oper.mk (some 82) _ _ _ _ _ :: _) _ _; refine ck rfl _ _ 38 rfl 147 147 3 g (i * 3) (n+1 - i) (cap - i) ⟨gx,0,none⟩ 1 cx 1 r.enc _ rfl rfl Tryz.underlying38 ?v4 hmin1 ?v5 HL2 ?v6 ?v7 HE1 ?_; rotate_right; intro W3 HL3 hg3))
 case v3=>rw [hi0]; simp [hzs]
 case v4=>rw [hi0]; simp [hzs]
 case v5=>rw [ae.enc_len]
 case v6=>unfold Hid; rw [bD _ _ _ HFA.out,HCL.out,ae.enc_len]; omega
 case v7=>exact fun j u hj=>by rw [cd,Nat.zero_add,(iA hg2 ⟨gx,j,none⟩ hxlt (by simp only; intro e; injection e with e; exact hne e)),HX.out.drew.cell]; exact hj
 have HF6:Hid (i * 3+r.enc.length≤(aU cur.toList ((i+1) * 3) (xs.drop (i * 3))).length):=by unfold Hid; rw [bD _ _ _ HFA.out,HCL.out,ae.enc_len]; omega
 go_ret
 have e1:(i+1) * 3=i * 3+3:=Nat.succ_mul i 3
 refine ⟨_,rfl,⟨?_,.inr ⟨g,cap,(aU (aU cur.toList ((i+1) * 3) (xs.drop (i * 3))) (i * 3) r.enc).toArray,rfl,hB,HL3.out,hroom,HCM.out, ?_, ?_⟩⟩, ?_⟩
 ·rw [List.length_append,List.length_append,List.length_take,ae.enc_len,HDL.out,HXL.out,Nat.sub_mul]; omega
 ·rw [List.size_toArray,bD _ _ _ HF6.out,bD _ _ _ HFA.out,HCL.out]
 ·show List.take _ (aU _ _ _)=_
  rw [e1]
  exact jC cur.toList xs r.enc i 3 n (ae.enc_len r) HXL.out hin HCU.out (by rw [HCL.out]; exact hnk1)
 ·exact ⟨hg3.os.trans hg2.os,hg3.tape.trans hg2.tape,hg3.output.trans hg2.output,Nat.le_trans hg2.size hg3.size,fun j hj hq=>(hg3.block j (Nat.lt_of_lt_of_le hj hg2.size) hq).trans (hg2.block j hj hq)⟩
theorem m7 (B:Nat) (v:Value) (n:Nat) (xs:List Value) (w:World) (hown:w.ownsRow B 147 3 v n xs) (hn:n≤1000000) (i:Nat) (hi:i≤n) (r:ae) (gx cx:Nat) (hx:ah w gx 147 r.enc) (hne:v.ownBlock ≠ some gx) (hB:B≤w.heap.size) (h1:∀ u ∈ xs,u.oneCell'=true) :
  Calls Tryz.prog 236 #[v,O U i,F (some ⟨gx,0,none⟩) 1 cx] w fun e w'=>∃ v',e=.returned v'∧w'.ownsRow B 147 3 v' (n+1) (xs.take (i * 3)++r.enc++xs.drop (i * 3))∧w.grownBy w' v.ownBlock:=by
 rcases Nat.lt_or_ge i n with hlt | hge
 ·obtain ⟨hl,⟨rfl,rfl⟩ | ⟨g,cap,cur,rfl,hg,hh,hc,hc',hcs,hct⟩⟩:=hown
  ·omega
  ·by_cases hcn:cap=n
   ·subst hcn
    exact mr B g cap cur xs w hh hcs hct i hlt hn r gx cx hx hB h1
   ·exact mt B g n cap cur xs w hh hcs (by omega) hc' hct i hlt hn r gx cx hx (fun e=>hne (by rw [e]; rfl)) hg h1
 ·have e:i=n:=by omega
  subst e
  have hl:=hown.1
  rw [List.take_of_length_le (by omega),List.drop_eq_nil_of_le (by omega),List.append_nil]
  exact m6 B v i xs w hown hn r gx cx hx hB
set_option maxRecDepth 100000 in
set_option maxHeartbeats 4000000 in
theorem m8 (B:Nat) (v:Value) (n:Nat) (xs:List Value) (w:World) (hown:w.ownsRow B 147 3 v n xs) (hn:n≤1000000) (i:Nat) (hi:i < n) (h1:∀ u ∈ xs,u.oneCell'=true) :
  Calls Tryz.prog 237 #[v,O U i,O U ((i:Int)+1)] w fun e w'=>∃ v',e=.returned v'∧w'.ownsRow B 147 3 v' (n - 1) (xs.take (i * 3)++xs.drop (i * 3+3))∧w.grownBy w' v.ownBlock∧v'.ownBlock=v.ownBlock:=by
 have mixed:Tryz.prog.follows .mixedOrders=true:=by kernel_rfl
 obtain ⟨i0,hi0,hz0,hzs,hzb⟩:=info_parts dM
 obtain ⟨hxl,⟨rfl,rfl⟩ | ⟨g,cap,cur,rfl,hg,hh,hc,hcm,hcs,hcur⟩⟩:=hown
 ·omega
 have hL:ah w g 147 cur.toList:=ah.of hh
 have hcl:cur.toList.length=cap * 3:=by rw [Array.length_toList,hcs]
 have hnk:n * 3≤cap * 3:=Nat.mul_le_mul_right _ hc
 have hi1:(i+1) * 3=i * 3+3:=Nat.succ_mul i 3
 have hi2:(i+1) * 3≤n * 3:=Nat.mul_le_mul_right _ (by omega)
 have hn1:(n - 1) * 3+3=n * 3:=by rw [← Nat.succ_mul]; congr 1; omega
 have hcell:∀ j u,xs[j]?=some u→w.cell? ⟨g,j,none⟩=some u:=fun j u hu=>by
  rw [hL.cell]
  rw [← hcur,List.getElem?_take] at hu
  split at hu
  ·exact hu
  ·cases hu
 have hdl:(xs.drop ((i+1) * 3)).length=(n - (i+1)) * 3:=by rw [List.length_drop,hxl,Nat.sub_mul]
 -- the source's address
 obtain ⟨A,hA,hsrc⟩ : ∃ A:Addr,(if cap=i+1 then some (⟨g,0,none⟩ : Addr) else some ⟨g,(i+1) * 3,none⟩)=some A∧∀ t u,(xs.drop ((i+1) * 3))[t]?=some u→w.drew.cell? (A.add t)=some u:=by
  by_cases h:cap=i+1
  ·refine ⟨⟨g,0,none⟩,by simp [h],fun t u hu=>?_⟩
   have h0:(xs.drop ((i+1) * 3)) = []:=List.eq_nil_of_length_eq_zero (by rw [hdl,show n - (i+1)=0 by omega,Nat.zero_mul])
   rw [h0] at hu; cases hu
  ·refine ⟨⟨g,(i+1) * 3,none⟩,by simp [h],fun t u hu=>?_⟩
   rw [cd]; exact hcell _ u (by rwa [List.getElem?_drop] at hu)
 have hrun:=run_append_room_cells (P:=Tryz.prog) w.drew 38 38 147 i0 Tryz.underlying38 hi0 g 0 i cap A (n - (i+1)) (cap - (i+1)) (xs.drop ((i+1) * 3)) (by rw [hzs]; exact hdl) hsrc (fun u hu=>h1 u (List.mem_of_mem_drop hu)) (by omega)
  (fun j hj=>by
   show (w.cell? _).isSome=true
   rw [hzs,Nat.zero_add,hL.cell,List.getElem?_eq_getElem (by rw [hcl]; rw [hdl,Nat.sub_mul] at hj; omega)]; rfl) (fun j hj=>by show w.frozen? _=false; exact hL.frozen _)
 rw [hzs,Nat.zero_add] at hrun
 have hF1:i * 3+(xs.drop ((i+1) * 3)).length≤cur.toList.length:=by rw [hdl,hcl,Nat.sub_mul]; omega
 have HL1:=Lib.hid (ah.setCells (xs.drop ((i+1) * 3)) (i * 3) w.drew cur.toList hL.drew hF1)
 have hg1:w.grownBy (w.drew.setCells g (i * 3) (xs.drop ((i+1) * 3))) (some g):=fo _ _ _ ⟨rfl,rfl,rfl,Nat.le_refl _,fun _ _ _=>rfl⟩
 obtain ⟨W1,hW1⟩ : ∃ W1,W1=w.drew.setCells g (i * 3) (xs.drop ((i+1) * 3)):=⟨_,rfl⟩
 rw [← hW1] at hrun HL1 hg1
 have hlen' : i+(n - (i+1))=n - 1:=by omega
 rw [hlen'] at hrun
 have HR:=hrun
 have hcm' : cap≤9223372036854775807:=by unfold maxLen at hcm; omega
 have HCM:=Lib.hid hcm
 have HCL:=Lib.hid hcl
 have HCU:=Lib.hid hcur
 have HXL:=Lib.hid hxl
 have HDL:=Lib.hid hdl
 have HF2:Hid ((n - 1) * 3+([O U 0,O U 0,O U 0] : List Value).length≤(aU cur.toList (i * 3) (xs.drop ((i+1) * 3))).length):=by
  unfold Hid; rw [bD _ _ _ hF1,hcl]; simp; omega
 have HF1:=Lib.hid hF1
 have hz1 : ¬ ((i:Int)=(i:Int)+1):=by omega
 have hbi:(i:Int)+1≤(n:Int):=by omega
 have hb0:(0:Int)≤(i:Int)+1:=by omega
 have hin:i+1≤n:=by omega
 have hcn1 : ¬ (cap=n - 1):=by omega
 have hnn:n - (n - 1)=1:=by omega
 have hnle:n - 1≤n:=by omega
 have hnc:n≤cap:=hc
 have hic:i≤cap:=by omega
 have hic1:i+1≤cap:=by omega
 have hii:(i:Int)≤(cap:Int):=by omega
 have htn:((i:Int)+1).toNat=i+1:=by omega
 have HA:=Lib.hid hA
 clear hW1 hrun hcell hsrc hcs hcl hcur hxl hdl hF1 hh hL h1 hcm hi2 hn1 hA
 go_enter Tryz.func237,Tryz.ntmps237
 go_wp2
 go_still_tail 6,(by kernel_rfl)
 change wpList _ _ _ _ _ w.drew
 go_wp2_with (first
  | (at_builtin; refine Lib.wpList_append_run _ rfl _ _ 38 38 rfl _ _ rfl ?w1 _ _ HR ?_)
  | (with_reducible show wpList _ _ _ (Oper.mk none (Op.call _) _ _ _ _ :: _) _ _; refine kO rfl _ 38 rfl 147 147 _ [O U 0,O U 0,O U 0] g ((n - 1) * 3) 1 (cap - (n - 1)) _ ?w2 Tryz.underlying38 Tryz.zeroValue147 (by omega) ?w3 ?w4 HL1 HF2 ?_; rotate_right; intro W2 HL2 hg2))
 case w1.inl =>
  have h:=HA.out
  rw [if_pos (by assumption)] at h
  exact Option.some.inj h
 case w1.inr =>
  have h:=HA.out
  rw [if_neg (by assumption)] at h
  rw [← Option.some.inj h,hi1]
 case w3=>kernel_rfl
 case w4=>simp [Value.oneCell']
 all_goals
  go_ret
  refine ⟨_,rfl,⟨?_,.inr ⟨g,_,(aU (aU cur.toList (i * 3) (xs.drop ((i+1) * 3))) ((n - 1) * 3) [O U 0,O U 0,O U 0]).toArray,rfl,hg,HL2.out,by omega,by have:=HCM.out; omega, ?_, ?_⟩⟩, ?_,rfl⟩
  ·rw [List.length_append,List.length_take,List.length_drop,HXL.out,Nat.sub_mul]; omega
  ·rw [List.size_toArray,bD _ _ _ HF2.out,bD _ _ _ HF1.out]; have:=HCL.out; omega
  ·show List.take _ (aU _ _ _)=_
   rw [hi1]
   exact m3 cur.toList xs [O U 0,O U 0,O U 0] i 3 n rfl HXL.out hi HCU.out (by rw [HCL.out]; omega)
  ·exact ⟨hg2.os.trans hg1.os,hg2.tape.trans hg1.tape,hg2.output.trans hg1.output,Nat.le_trans hg1.size hg2.size,fun j hj hq=>(hg2.block j (Nat.lt_of_lt_of_le hj hg1.size) hq).trans (hg1.block j hj hq)⟩
theorem ac {w w' : World} {B:Nat} {e:TypeId} {k:Nat} {v:Value} {n:Nat} {xs:List Value} (h:w.ownsRow B e k v n xs) (hb:Below w.heap.size w w'):w'.ownsRow B e k v n xs:=by
 obtain ⟨hl,h0 | ⟨g,cap,cur,hv,hg,hh,h1,h2,h3,h4⟩⟩:=h
 ·exact ⟨hl,.inl h0⟩
 ·have hlt:g < w.heap.size:=by
   rcases Nat.lt_or_ge g w.heap.size with hlt | hge
   ·exact hlt
   ·rw [Array.getElem?_eq_none hge] at hh; cases hh
  exact ⟨hl,.inr ⟨g,cap,cur,hv,hg,(hb.block g hlt).trans hh,h1,h2,h3,h4⟩⟩
theorem dB {w:World} {B:Nat} {e t:TypeId} {k:Nat} {v:Value} {n:Nat} {xs cs:List Value} (h:w.ownsRow B e k v n xs) {g:Nat} (hg:ah w g t cs) (hne:e ≠ t):some g ≠ v.ownBlock:=by
 obtain ⟨_,⟨rfl,_⟩ | ⟨g',cap,cur,rfl,_,hh,_⟩⟩:=h
 ·simp [Value.ownBlock]
 ·intro he
  simp only [Value.ownBlock,Option.some.injEq] at he
  subst he
  unfold ah at hg
  rw [hg] at hh
  injection hh with hh; injection hh with _ h2; exact hne h2.symm
theorem af {w:World} {B B' : Nat} {e:TypeId} {k:Nat} {v:Value} {n:Nat} {xs:List Value} (h:w.ownsRow B e k v n xs) (hB:B'≤B):w.ownsRow B' e k v n xs:=by
 obtain ⟨hl,h0 | ⟨g,cap,cur,hv,hg,hh⟩⟩:=h
 ·exact ⟨hl,.inl h0⟩
 ·exact ⟨hl,.inr ⟨g,cap,cur,hv,Nat.le_trans hB hg,hh⟩⟩
theorem ej {w w' : World} {B B' : Nat} {e e' : TypeId} {k k' : Nat} {v v' : Value} {n n' : Nat} {xs xs' : List Value} (h:w.ownsRow B e k v n xs) (h' : w.ownsRow B' e' k' v' n' xs') (hne:e' ≠ e) (hg:w.grownBy w' v'.ownBlock):w'.ownsRow B e k v n xs:=by
 refine h.kept hg ?_
 obtain ⟨_,⟨h1,_⟩ | ⟨g,cap,cur,h1,_,hh,_⟩⟩:=h
 ·left; rw [h1]; rfl
 ·right
  rw [h1]
  exact dB h' (g:=g) (t:=e) (cs:=cur.toList) (ah.of hh) hne
def lenOf:Value→Nat
 | F _ n _=>n
 | _=>0
theorem aF {w:World} {B:Nat} {e t:TypeId} {k:Nat} {v:Value} {n:Nat} {xs cs:List Value} (h:w.ownsRow B e k v n xs) {g:Nat} (hg:ah w g t cs) (hne:e ≠ t) (i:Nat) (u:Value):(w.setCell ⟨g,i,none⟩ u).ownsRow B e k v n xs:=by
 have hf:=dB h hg hne
 obtain ⟨hl,h0 | ⟨g',cap,cur,hv,hg',hh,h1⟩⟩:=h
 ·exact ⟨hl,.inl h0⟩
 ·refine ⟨hl,.inr ⟨g',cap,cur,hv,hg',(Below.heap_setCell w _ u g' ?_).trans hh,h1⟩⟩
  intro e'
  subst hv
  exact hf (by simp only [Value.ownBlock]; rw [e'])
theorem bH {w:World} {B:Nat} {e:TypeId} {k:Nat} {v:Value} {n:Nat} {xs:List Value} (h:w.ownsRow B e k v n xs) (hn:0 < n):∃ g cap rest,v=F (some ⟨g,0,none⟩) n cap∧B≤g∧ah w g e (xs++rest)∧n≤cap:=by
 obtain ⟨hl,h0 | ⟨g,cap,cur,hv,hg,hh,h1,h2,h3,h4⟩⟩:=h
 ·omega
 ·refine ⟨g,cap,cur.toList.drop (n * k),hv,hg, ?_,h1⟩
  have:xs++cur.toList.drop (n * k)=cur.toList:=by rw [← h4]; exact List.take_append_drop _ _
  rw [this]; exact ah.of hh
theorem lC {w:World} {B g cap:Nat} {e:TypeId} {k n:Nat} {xs:List Value} (h:w.ownsRow B e k (F (some ⟨g,0,none⟩) n cap) n xs) (j:Nat) (u:Value) (hj:j < n * k):(w.setCell ⟨g,j,none⟩ u).ownsRow B e k (F (some ⟨g,0,none⟩) n cap) n (xs.set j u):=by
 obtain ⟨hl,h0 | ⟨g',cap',cur,hv,hg,hh,h1,h2,h3,h4⟩⟩:=h
 ·cases h0.1
 ·injection hv with e1 e2 e3
  injection e1 with e1; injection e1 with e1; subst e1; subst e3
  have hL:=(ah.of hh).set j u
  exact ⟨by rw [List.length_set]; exact hl,.inr ⟨g,cap,(cur.toList.set j u).toArray,rfl,hg,hL,h1,h2,by simp [h3],by show List.take _ (cur.toList.set j u)=_; rw [List.take_set,h4]⟩⟩
theorem aA {w:World} {B:Nat} {e:TypeId} {k:Nat} {A:Option Addr} {n c:Nat} {xs:List Value} (h:w.ownsRow B e k (F A n c) n xs):aY w w.heap.size k A n xs:=by
 obtain ⟨hl,h0 | ⟨g,cap,cur,hv,hg,hh,h1,h2,h3,h4⟩⟩:=h
 ·exact ⟨hl,by omega,fun hn=>by omega⟩
 ·injection hv with e1 _ _
  refine ⟨hl,by unfold maxLen at h2; omega,fun hn=>⟨g,0,e1,(ah.of hh).lt,fun j u hu=>?_⟩⟩
  rw [Nat.zero_add,(ah.of hh).cell]
  rw [← h4,List.getElem?_take] at hu
  split at hu
  ·exact hu
  ·cases hu
theorem aj {w w' : World} {B:Nat} {e t:TypeId} {k:Nat} {v:Value} {n:Nat} {xs cs:List Value} (h:w.ownsRow B e k v n xs) {g:Nat} (hL:ah w g t cs) (hne:e ≠ t) (hg:w.grownBy w' (some g)):w'.ownsRow B e k v n xs :=
 h.kept hg (.inr fun e'=>dB h hL hne e'.symm)
structure az (w:World) (B g:Nat) (vt vo:Value) (y:Oc):Prop where
 lies:ah w g 40 [vt,vo,O U y.got,O U y.sold,O U y.missed]
 hg:B≤g
 t:w.ownsRow B 104 2 vt y.t.length (y.t.flatMap ap.enc)
 o:w.ownsRow B 147 3 vo y.o.length (y.o.flatMap ae.enc)
theorem eE:104 ≠ 40:=by decide
theorem ep:147 ≠ 40:=by decide
theorem qR:147 ≠ 104:=by decide
set_option maxRecDepth 100000 in
set_option maxHeartbeats 4000000 in
theorem mu (x:aL) (g:Nat) (w:World) (h:bX w w.heap.size g x) (tl:x.t.length≤1000000) (ol:x.o.length≤1000000) :
  Calls Tryz.prog 93 #[.pointer (some ⟨g,0,none⟩)] w fun e w'=>∃ TA tc OA oc,e=.returned (aL.val (x.c.at TA tc OA oc))∧w'.ownsRow w.heap.size 104 2 (F TA x.t.length tc) x.t.length (x.t.flatMap ap.enc)∧w'.ownsRow w.heap.size 147 3 (F OA x.o.length oc) x.o.length (x.o.flatMap ae.enc)∧Below w.heap.size w w':=by
 have b1:=(Below.refl w.heap.size w).alloc (Nat.le_refl _) (.cells #[F none 0 0,F none 0 0,O U 0,O U 0,O U 0] 40)
 have L1:=ah.new w 40 #[F none 0 0,F none 0 0,O U 0,O U 0,O U 0]
 have hA:=h.then b1 b1.size
 go_enter Tryz.func93,Tryz.ntmps93
 go_wp2
 generalize w.alloc (.cells #[F none 0 0,F none 0 0,O U 0,O U 0,O U 0] 40)=W at b1 L1 hA ⊢
 have cT:∀ W',Below W.heap.size W W'→Calls Tryz.prog 147 #[F x.TA x.t.length x.tc] W' (fun e w'=>∃ A c,e=.returned (F A x.t.length c)∧w'.ownsRow w.heap.size 104 2 (F A x.t.length c) x.t.length (x.t.flatMap ap.enc)∧Below W'.heap.size W' w'∧Below W.heap.size W w'):=fun W' hb =>
  (m5 x.TA x.tc x.t W' (hA.r.up hb (Nat.le_refl _)).ts tl).mono fun e w' ⟨A,c,he,ho,hb'⟩=>⟨A,c,he,af ho (Nat.le_trans b1.size hb.size),hb',aq hb hb'⟩
 have cO:∀ W',Below W.heap.size W W'→Calls Tryz.prog 148 #[F x.OA x.o.length x.oc] W' (fun e w'=>∃ A c,e=.returned (F A x.o.length c)∧w'.ownsRow w.heap.size 147 3 (F A x.o.length c) x.o.length (x.o.flatMap ae.enc)∧Below W'.heap.size W' w'∧Below W.heap.size W w'):=fun W' hb =>
  (lS x.OA x.oc x.o W' (hA.r.up hb (Nat.le_refl _)).os ol).mono fun e w' ⟨A,c,he,ho,hb'⟩=>⟨A,c,he,af ho (Nat.le_trans b1.size hb.size),hb',aq hb hb'⟩
 have HK0:∀ W',Below w.heap.size w W'→(Below w.heap.size w W'∧W'.cell? ⟨g,0,none⟩=some (F x.TA x.t.length x.tc)∧W'.cell? ⟨g,1,none⟩=some (F x.OA x.o.length x.oc)∧W'.cell? ⟨g,2,none⟩=some (O U x.got)∧W'.cell? ⟨g,3,none⟩=some (O U x.sold)∧W'.cell? ⟨g,4,none⟩=some (O U x.missed)):=fun W' hb =>
  ⟨hb,h.s.c0 ⟨W',hb⟩,h.s.c1 ⟨W',hb⟩,h.s.c2 ⟨W',hb⟩,h.s.c3 ⟨W',hb⟩,h.s.c4 ⟨W',hb⟩⟩
 have HK:∀ W',Below W.heap.size W W'→(Below w.heap.size w W'∧W'.cell? ⟨g,0,none⟩=some (F x.TA x.t.length x.tc)∧W'.cell? ⟨g,1,none⟩=some (F x.OA x.o.length x.oc)∧W'.cell? ⟨g,2,none⟩=some (O U x.got)∧W'.cell? ⟨g,3,none⟩=some (O U x.sold)∧W'.cell? ⟨g,4,none⟩=some (O U x.missed)):=fun W' hb=>HK0 W' (b1.trans (hb.mono b1.size))
 have HKs:∀ W' (u0 u1 u2 u3 u4:Value),Below W.heap.size W W'→(Below w.heap.size w (((((W'.setCell ⟨w.heap.size,0,none⟩ u0).setCell ⟨w.heap.size,1,none⟩ u1).setCell ⟨w.heap.size,2,none⟩ u2).setCell ⟨w.heap.size,3,none⟩ u3).setCell ⟨w.heap.size,4,none⟩ u4)∧(((((W'.setCell ⟨w.heap.size,0,none⟩ u0).setCell ⟨w.heap.size,1,none⟩ u1).setCell ⟨w.heap.size,2,none⟩ u2).setCell ⟨w.heap.size,3,none⟩ u3).setCell ⟨w.heap.size,4,none⟩ u4).cell? ⟨g,0,none⟩=some (F x.TA x.t.length x.tc)∧(((((W'.setCell ⟨w.heap.size,0,none⟩ u0).setCell ⟨w.heap.size,1,none⟩ u1).setCell ⟨w.heap.size,2,none⟩ u2).setCell ⟨w.heap.size,3,none⟩ u3).setCell ⟨w.heap.size,4,none⟩ u4).cell? ⟨g,1,none⟩=some (F x.OA x.o.length x.oc)∧(((((W'.setCell ⟨w.heap.size,0,none⟩ u0).setCell ⟨w.heap.size,1,none⟩ u1).setCell ⟨w.heap.size,2,none⟩ u2).setCell ⟨w.heap.size,3,none⟩ u3).setCell ⟨w.heap.size,4,none⟩ u4).cell? ⟨g,2,none⟩=some (O U x.got)∧(((((W'.setCell ⟨w.heap.size,0,none⟩ u0).setCell ⟨w.heap.size,1,none⟩ u1).setCell ⟨w.heap.size,2,none⟩ u2).setCell ⟨w.heap.size,3,none⟩ u3).setCell ⟨w.heap.size,4,none⟩ u4).cell? ⟨g,3,none⟩=some (O U x.sold)∧(((((W'.setCell ⟨w.heap.size,0,none⟩ u0).setCell ⟨w.heap.size,1,none⟩ u1).setCell ⟨w.heap.size,2,none⟩ u2).setCell ⟨w.heap.size,3,none⟩ u3).setCell ⟨w.heap.size,4,none⟩ u4).cell? ⟨g,4,none⟩=some (O U x.missed)):=fun W' u0 u1 u2 u3 u4 hb=>HK0 _ ((b1.trans (hb.mono b1.size)).grown (ab (ab (ab (ab (ab (World.grownBy.refl W' (some w.heap.size))))))) (Nat.le_trans b1.size hb.size) (by rintro _ ⟨⟩; exact Nat.le_refl _))
 have HZ:∀ W',Below W.heap.size W W'→(W'.cell? ⟨w.heap.size,0,none⟩=some (F none 0 0)∧W'.cell? ⟨w.heap.size,1,none⟩=some (F none 0 0)∧W'.cell? ⟨w.heap.size,2,none⟩=some (O U 0)∧W'.cell? ⟨w.heap.size,3,none⟩=some (O U 0)∧W'.cell? ⟨w.heap.size,4,none⟩=some (O U 0) ∧
   W'.frozen? ⟨w.heap.size,0,none⟩=false∧W'.frozen? ⟨w.heap.size,1,none⟩=false∧W'.frozen? ⟨w.heap.size,2,none⟩=false∧W'.frozen? ⟨w.heap.size,3,none⟩=false∧W'.frozen? ⟨w.heap.size,4,none⟩=false):=fun W' hb =>
  have L:=L1.below hb L1.lt
  ⟨L.cell 0,L.cell 1,L.cell 2,L.cell 3,L.cell 4,L.frozen 0,L.frozen 1,L.frozen 2,L.frozen 3,L.frozen 4⟩
 have HL1:=Lib.hid L1; clear L1
 have HB1:=Lib.hid b1; clear b1
 clear hA h
 go_region_held3 (fun W'=>(Below w.heap.size w W'∧W'.cell? ⟨g,0,none⟩=some (F x.TA x.t.length x.tc)∧W'.cell? ⟨g,1,none⟩=some (F x.OA x.o.length x.oc)∧W'.cell? ⟨g,2,none⟩=some (O U x.got)∧W'.cell? ⟨g,3,none⟩=some (O U x.sold)∧W'.cell? ⟨g,4,none⟩=some (O U x.missed))) (first | exact HK _ (Below.refl _ _).drew | exact HK _ hb9 | exact HK _ hb8 | exact HKs _ _ _ _ _ _ hb9 | exact HKs _ _ _ _ _ _ hb8) (first | (go_at_call 147; (first | (refine (cT _ (Below.refl _ _).drew).mono ?_) | (refine (cT _ hb9).mono ?_)); rintro e w8 ⟨A8,c8,rfl,ho8,hk8,hb8⟩; obtain ⟨z0,z1,z2,z3,z4,f0,f1,f2,f3,f4⟩:=HZ _ hb8) | (go_at_call 148; (first | (refine (cO _ (Below.refl _ _).drew).mono ?_) | (refine (cO _ hb8).mono ?_)); rintro e w9 ⟨A9,c9,rfl,ho9,hk9,hb9⟩; obtain ⟨y0,y1,y2,y3,y4,g0,g1,g2,g3,g4⟩:=HZ _ hb9))
 have hL9:ah w9 w.heap.size 40 [F none 0 0,F none 0 0,O U 0,O U 0,O U 0]:=HL1.out.below hb9 HL1.out.lt
 have e0:=(((((hL9.set 0 (F A8 x.t.length c8)).set 1 (F A9 x.o.length c9)).set 2 (O U x.got)).set 3 (O U x.sold)).set 4 (O U x.missed))
 have hgr:=ab (g:=w.heap.size) (i:=4) (u:=O U x.missed) (ab (g:=w.heap.size) (i:=3) (u:=O U x.sold) (ab (g:=w.heap.size) (i:=2) (u:=O U x.got) (ab (g:=w.heap.size) (i:=1) (u:=F A9 x.o.length c9) (ab (g:=w.heap.size) (i:=0) (u:=F A8 x.t.length c8) (World.grownBy.refl w9 (some w.heap.size))))))
 have r8:=aj (ac ho8 hk9) hL9 eE hgr
 have r9:=aj ho9 hL9 ep hgr
 have b9:Below w.heap.size w w9:=HB1.out.trans (hb9.mono HB1.out.size)
 have b10:=b9.grown hgr b9.size (by rintro _ ⟨⟩; exact Nat.le_refl _)
 generalize (((((w9.setCell ⟨w.heap.size,0,none⟩ (F A8 x.t.length c8)).setCell ⟨w.heap.size,1,none⟩ (F A9 x.o.length c9)).setCell ⟨w.heap.size,2,none⟩ (O U x.got)).setCell ⟨w.heap.size,3,none⟩ (O U x.sold)).setCell ⟨w.heap.size,4,none⟩ (O U x.missed))=W10 at e0 hgr r8 r9 b10 ⊢
 simp only [List.set_cons_zero,List.set_cons_succ] at e0
 obtain ⟨k0,k1,k2,k3,k4⟩:=cells5 e0
 have R8:=Lib.hid r8; clear r8
 have R9:=Lib.hid r9; clear r9
 clear z0 z1 z2 z3 z4 f0 f1 f2 f3 f4 y0 y1 y2 y3 y4 g0 g1 g2 g3 g4 ho8 ho9 hgr
 go_wp2
 refine bodyPost_ret (v:=aL.val (x.c.at A8 c8 A9 c9)) (by simp [results,Tryz.results93,go_sem,Oc.at,aL.c, *]) rfl ⟨A8,c8,A9,c9,rfl,R8.out,R9.out,b10⟩
theorem az.then {w w' : World} {B g:Nat} {vt vo:Value} {y:Oc} (h:az w B g vt vo y) (hb:Below w.heap.size w w'):az w' B g vt vo y :=
 ⟨h.lies.below hb h.lies.lt,h.hg,ac h.t hb,ac h.o hb⟩
theorem ii {α:Type} (enc:α→List Value) (k:Nat) (hk:∀ x,(enc x).length=k):∀ (l:List α) (i:Nat),(l.take i).flatMap enc=(l.flatMap enc).take (i * k)
 | [],i=>by simp
 | x :: l,0=>by simp
 | x :: l,i+1=>by
  have e:(i+1) * k=(enc x).length+i * k:=by rw [hk,Nat.succ_mul]; omega
  rw [List.take_succ_cons,List.flatMap_cons,List.flatMap_cons,ii enc k hk l i,e,List.take_length_add_append]
theorem ij {α:Type} (enc:α→List Value) (k:Nat) (hk:∀ x,(enc x).length=k):∀ (l:List α) (i:Nat),(l.drop i).flatMap enc=(l.flatMap enc).drop (i * k)
 | [],i=>by simp
 | x :: l,0=>by simp
 | x :: l,i+1=>by
  have e:(i+1) * k=(enc x).length+i * k:=by rw [hk,Nat.succ_mul]; omega
  rw [List.drop_succ_cons,List.flatMap_cons,ij enc k hk l i,e,List.drop_length_add_append]
theorem oX {α:Type} (enc:α→List Value) (k:Nat) (hk:∀ x,(enc x).length=k) (l:List α) (i:Nat) (r:α):(l.take i++r :: l.drop i).flatMap enc=(l.flatMap enc).take (i * k)++enc r++(l.flatMap enc).drop (i * k):=by
 rw [List.flatMap_append,List.flatMap_cons,ii enc k hk,ij enc k hk,List.append_assoc]
theorem sM {α:Type} (enc:α→List Value) (k:Nat) (hk:∀ x,(enc x).length=k) (l:List α) (i:Nat):(l.take i++l.drop (i+1)).flatMap enc=(l.flatMap enc).take (i * k)++(l.flatMap enc).drop (i * k+k):=by
 rw [List.flatMap_append,ii enc k hk,ij enc k hk,Nat.succ_mul]
theorem rt {i:Nat} {c:Int} : ∀ {l:List ae} (h:i < l.length),(l.flatMap ae.enc).set (i * 3+2) (O U c)=(l.set i ⟨l[i].k,l[i].p,c⟩).flatMap ae.enc:=by
 induction i with
 | zero=>intro l h; match l,h with
  | x :: l,_=>simp [ae.enc]
 | succ i ih=>intro l h; match l,h with
  | x :: l,h =>
   simp only [List.flatMap_cons,List.getElem_cons_succ,List.set_cons_succ]
   rw [← ih (by simpa using h),List.set_append_right _ _ (by rw [ae.enc_len]; omega),ae.enc_len]
   congr 2; omega
theorem ru {i:Nat} {c:Int} : ∀ {l:List ap} (h:i < l.length),(l.flatMap ap.enc).set (i * 2+1) (O U c)=(l.set i ⟨l[i].k,c⟩).flatMap ap.enc:=by
 induction i with
 | zero=>intro l h; match l,h with
  | x :: l,_=>simp [ap.enc]
 | succ i ih=>intro l h; match l,h with
  | x :: l,h =>
   simp only [List.flatMap_cons,List.getElem_cons_succ,List.set_cons_succ]
   rw [← ih (by simpa using h),List.set_append_right _ _ (by rw [ap.enc_len]; omega),ap.enc_len]
   congr 2; omega
def cQ (os:List ae) (k p:Int):Nat:=(os.takeWhile fun o=>before o ⟨k,p,0⟩).length
theorem f8 (o:ae) (os:List ae) (k p:Int):cQ (o :: os) k p=if before o ⟨k,p,0⟩=true then cQ os k p+1 else 0:=by
 unfold cQ; rw [List.takeWhile_cons]; by_cases h:before o ⟨k,p,0⟩=true <;> simp [h]
theorem qS (os:List ae) (k p:Int):cQ os k p≤os.length:=by
 unfold cQ; exact (List.takeWhile_prefix _).length_le
theorem nW:∀ (os:List ae) (k p:Int) (i:Nat) (h:i < os.length),i < cQ os k p→before os[i] ⟨k,p,0⟩=true
 | o :: os,k,p,i,h,hi=>by
  rw [f8] at hi
  split at hi
  ·cases i with
   | zero=>assumption
   | succ i=>exact nW os k p i (by simpa using h) (by omega)
  ·omega
theorem nX:∀ (os:List ae) (k p:Int),mZ os→∀ (i:Nat) (h:i < os.length),cQ os k p≤i→¬ before os[i] ⟨k,p,0⟩=true
 | o :: os,k,p,ha,i,h,hi=>by
  obtain ⟨h1,h2⟩:=List.pairwise_cons.1 ha
  by_cases hb:before o ⟨k,p,0⟩=true
  ·rw [f8,if_pos hb] at hi
   cases i with
   | zero=>omega
   | succ i=>exact nX os k p h2 i (by simpa using h) (by omega)
  ·cases i with
   | zero=>exact hb
   | succ i =>
    have:=h1 (os[i]'(by simpa using h)) (List.getElem_mem _)
    simp only [List.getElem_cons_succ]
    rw [df] at this hb ⊢; simp only at hb ⊢; omega
theorem oY {k p b:Int} : ∀ (os:List ae),(∀ h:cQ os k p < os.length,eu k p os[cQ os k p]=false)→dX k p b os=os.take (cQ os k p)++⟨k,p,b⟩ :: os.drop (cQ os k p)
 | [],_=>by simp [dX,cQ]
 | o :: os,h=>by
  by_cases hb:before o ⟨k,p,0⟩=true
  ·have e:cQ (o :: os) k p=cQ os k p+1:=by rw [f8,if_pos hb]
   simp only [e] at h ⊢
   rw [dX,if_pos hb,oY os (fun h'=>by have:=h (by simpa using h'); simpa using this),List.take_succ_cons,List.drop_succ_cons,List.cons_append]
  ·have e:cQ (o :: os) k p=0:=by rw [f8,if_neg hb]
   simp only [e] at h ⊢
   have:=h (by simp)
   simp only [List.getElem_cons_zero] at this
   rw [dX,if_neg hb,this,if_neg (by simp)]; rfl
theorem oZ {k p b:Int} : ∀ (os:List ae) (h:cQ os k p < os.length),eu k p os[cQ os k p]=true →
  dX k p b os=if os[cQ os k p].c+b=0 then os.take (cQ os k p)++os.drop (cQ os k p+1) else os.set (cQ os k p) ⟨os[cQ os k p].k,os[cQ os k p].p,os[cQ os k p].c+b⟩
 | o :: os,h,hi=>by
  by_cases hb:before o ⟨k,p,0⟩=true
  ·have e:cQ (o :: os) k p=cQ os k p+1:=by rw [f8,if_pos hb]
   simp only [e,List.getElem_cons_succ] at h hi ⊢
   rw [dX,if_pos hb,oZ os (by simpa using h) hi,List.take_succ_cons,List.drop_succ_cons,List.cons_append,List.set_cons_succ]
   split <;> rfl
  ·have e:cQ (o :: os) k p=0:=by rw [f8,if_neg hb]
   simp only [e,List.getElem_cons_zero] at h hi ⊢
   rw [dX,if_neg hb,if_pos hi]
   split <;> simp
theorem l6 {a b:ae} : iE a b < 0 ↔ before a b=true:=by
 have h:=lz a b
 by_cases h0:0≤iE a b
 ·rw [decide_eq_true h0] at h
  have:before a b=false:=by cases hb:before a b; rfl; rw [hb] at h; cases h
  rw [this]; constructor
  ·intro h; omega
  ·intro h; cases h
 ·rw [decide_eq_false h0] at h
  have:before a b=true:=by cases hb:before a b; rw [hb] at h; cases h; rfl
  rw [this]; constructor
  ·intro _; rfl
  ·intro _; omega
theorem nv {a:ae} {k p b:Int} : decide (iE a ⟨k,p,b⟩=0)=eu k p a:=by
 rw [Bool.eq_iff_iff,decide_eq_true_eq,dz]
 unfold iE tF gH
 dsimp only
 constructor
 ·intro h
  repeat' split at h
  all_goals first | omega | (constructor <;> omega)
 ·rintro ⟨rfl,rfl⟩
  simp
theorem az.ne_to {w:World} {B g:Nat} {vt vo:Value} {y:Oc} (h:az w B g vt vo y):vo.ownBlock ≠ some g:=fun e=>dB h.o h.lies ep e.symm
theorem az.ne_t {w:World} {B g:Nat} {vt vo:Value} {y:Oc} (h:az w B g vt vo y):vt.ownBlock ≠ some g:=fun e=>dB h.t h.lies eE e.symm
theorem az.setO {w w' : World} {B g:Nat} {vt vo vo' : Value} {y:Oc} {os:List ae} (h:az w B g vt vo y) (hg:w.grownBy w' vo.ownBlock) (ho:w'.ownsRow B 147 3 vo' os.length (os.flatMap ae.enc)) :
  az (w'.setCell ⟨g,1,none⟩ vo') B g vt vo' { y with o:=os }:=by
 have hL:ah w' g 40 _:=h.lies.kept hg (fun e=>h.ne_to e.symm)
 have ht:=ej h.t h.o qR hg
 exact ⟨hL.set 1 vo',h.hg,aF ht hL eE 1 vo',aF ho hL ep 1 vo'⟩
theorem nw (t u:ae) (w:World):Calls Tryz.prog 118 (#[t.val,u.val]++#[]) w fun e w'=>e=.returned (O U (iE t u))∧Below w.heap.size w w':=gn t u w
set_option maxRecDepth 100000 in
set_option maxHeartbeats 4000000 in
theorem qb (B g:Nat) (vt vo:Value) (y:Oc) (k p b:Int) (w:World) (h:az w B g vt vo y) (hB:B≤w.heap.size) (ha:mZ y.o) (hn:y.o.length≤100000) (hnew:∀ h:cQ y.o k p < y.o.length,eu k p y.o[cQ y.o k p]=false) :
  Calls Tryz.prog 216 #[.pointer (some ⟨g,0,none⟩),O U k,O U p,O U b] w fun e w'=>∃ vo',e=.returned (.tuple #[])∧az w' B g vt vo' { y with o:=dX k p b y.o }∧Below B w w':=by
 have b1:=(Below.refl w.heap.size w).alloc (Nat.le_refl _) (.cells #[O U k,O U p,O U b] 147)
 have L1:=ah.new w 147 #[O U k,O U p,O U b]
 have h1:=h.then b1
 have HC:=Lib.hid (oY y.o hnew (b:=b))
 have hlo:∀ i (h:i < y.o.length),i < cQ y.o k p→iE y.o[i] ⟨k,p,b⟩ < 0:=fun i h hi=>l6.2 (nW y.o k p i h hi)
 have hhi:∀ i (h:i < y.o.length),cQ y.o k p≤i→¬ iE y.o[i] ⟨k,p,b⟩ < 0:=fun i h hi hc=>nX y.o k p ha i h hi (l6.1 hc)
 have hfd:∀ h:cQ y.o k p < y.o.length,false=decide (iE y.o[cQ y.o k p] ⟨k,p,b⟩=0):=fun h=>by rw [nv,hnew h]
 have hple:=qS y.o k p
 obtain ⟨A0,c0,rfl⟩:=av h.o
 have cB:∀ W,Below (w.alloc (.cells #[O U k,O U p,O U b] 147)).heap.size (w.alloc (.cells #[O U k,O U p,O U b] 147)) W→Calls Tryz.prog 235 #[F A0 y.o.length c0,.agg #[O U k,O U p,O U b],.func (.func 118) #[] #[]] W fun e w'=>e=.returned (.tuple #[O U (cQ y.o k p),.bool false])∧Below W.heap.size W w':=fun W hb =>
  ki (fun o=>iE o ⟨k,p,b⟩) ⟨k,p,b⟩ 118 #[] Tryz.call118 A0 c0 y.o W (fun t p=>nw t _ p.val) (aA (h1.then hb).o) (by omega) (cQ y.o k p) hple hlo hhi false hfd (fun _=>rfl)
 generalize cQ y.o k p=q at cB HC hple
 clear hlo hhi hfd hnew ha
 go_enter Tryz.func216,Tryz.ntmps216
 go_wp2
 generalize w.alloc (.cells #[O U k,O U p,O U b] 147)=W at b1 L1 h1 cB ⊢
 have hc1:∀ r:an W.heap.size W,r.val.cell? ⟨g,1,none⟩=some (F A0 y.o.length c0):=fun r=>(r.cell h1.lies.lt).trans (h1.lies.cell 1)
 have hd0:∀ r:an W.heap.size W,r.val.cell? ⟨w.heap.size,0,none⟩=some (O U k):=fun r=>(r.cell L1.lt).trans (L1.cell 0)
 have hd1:∀ r:an W.heap.size W,r.val.cell? ⟨w.heap.size,1,none⟩=some (O U p):=fun r=>(r.cell L1.lt).trans (L1.cell 1)
 have hd2:∀ r:an W.heap.size W,r.val.cell? ⟨w.heap.size,2,none⟩=some (O U b):=fun r=>(r.cell L1.lt).trans (L1.cell 2)
 have cB':=fun r:an W.heap.size W=>cB r.val r.below
 refine ar (by kernel_rfl) (by kernel_rfl) ?_
 repeat (any_goals (first | go_big_quiet_step ((go_at_call 235; refine aK (Nat.le_refl _) (cB' _))) | (refine wpQuiet_step (fun K hK=>?_); go_simp; split <;> (refine hK _ ?_; clear hK K))))
 all_goals (refine wpQuiet_nil ?_; rintro _ ⟨q1,rfl⟩)
 all_goals go_wp2
 have h2:=h1.then q1.below
 have b2:Below w.heap.size w q1.val:=b1.trans (q1.below.mono b1.size)
 clear hc1 cB cB' h1 b1
 have c1:q1.val.cell? ⟨g,1,none⟩=some (F A0 y.o.length c0):=h2.lies.cell 1
 have e0:=hd0 q1
 have e1:=hd1 q1
 have e2:=hd2 q1
 clear hd0 hd1 hd2
 have bS:=(Below.refl q1.val.heap.size q1.val).alloc (Nat.le_refl _) (.cells #[O U k,O U p,O U b] 147)
 have hS:az (q1.val.alloc (.cells #[O U k,O U p,O U b] 147)).drew B g vt (F A0 y.o.length c0) y:=(h2.then bS).then (Below.refl _ _).drew
 have hBq:B≤q1.val.heap.size:=Nat.le_trans hB b2.size
 have cI:=m7 B (F A0 y.o.length c0) y.o.length (y.o.flatMap ae.enc) (q1.val.alloc (.cells #[O U k,O U p,O U b] 147)).drew hS.o (by omega) q hple ⟨k,p,b⟩ q1.val.heap.size 1 (ah.new q1.val 147 #[O U k,O U p,O U b]).drew (fun e=>by have:=(h2.o.lt _ e).2; omega) (Nat.le_trans hBq bS.size) ex
 rw [show (y.o.flatMap ae.enc).take (q * 3)++ae.enc ⟨k,p,b⟩++(y.o.flatMap ae.enc).drop (q * 3)=(dX k p b y.o).flatMap ae.enc by rw [HC.out,oX ae.enc 3 ae.enc_len]] at cI
 have hlen:y.o.length+1=(dX k p b y.o).length:=by rw [HC.out]; simp; omega
 rw [hlen] at cI
 have c1':=hS.lies.cell 1
 simp only [List.getElem?_cons_zero,List.getElem?_cons_succ] at c1'
 have HS:=Lib.hid hS; clear hS
 have HLen:=Lib.hid hlen; clear hlen
 go_region_law (first | (go_simp; go_at_call 236; refine cI.mono ?_; rintro e w9 ⟨v',rfl,HO,hg9⟩; obtain ⟨A9,c9,rfl⟩:=av HO; have k1:=(HS.out.lies.kept hg9 (fun e=>HS.out.ne_to e.symm)).cell 1; have k2:=(HS.out.lies.kept hg9 (fun e=>HS.out.ne_to e.symm)).frozen 1; simp only [List.getElem?_cons_zero,List.getElem?_cons_succ] at k1))
 all_goals
  go_wp2
  refine bodyPost_ret (results_none rfl _ _ _) rfl ?_
  have hO:=HS.out.setO hg9 HO
  refine ⟨_,rfl,hO, ?_⟩
  have bq:Below B w (q1.val.alloc (.cells #[O U k,O U p,O U b] 147)).drew:=(b2.mono hB).trans ((bS.drew).mono hBq)
  have b9:Below B w w9:=bq.grown hg9 (Nat.le_trans hBq bS.size) (fun j hj=>(HS.out.o.lt _ hj).1)
  exact b9.grown (ab (World.grownBy.refl w9 (some g))) (Nat.le_trans hB b9.size) (by rintro _ ⟨⟩; exact HS.out.hg)
set_option maxRecDepth 100000 in
set_option maxHeartbeats 4000000 in
theorem qc (B g:Nat) (vt vo:Value) (y:Oc) (k p b:Int) (w:World) (h:az w B g vt vo y) (hB:B≤w.heap.size) (ha:mZ y.o) (hn:y.o.length≤100000) (hlt:cQ y.o k p < y.o.length) (hold:eu k p y.o[cQ y.o k p]=true)
  (hc : -1000000000≤y.o[cQ y.o k p].c∧y.o[cQ y.o k p].c≤1000000000) (hb : -1000000000≤b∧b≤1000000000) :
  Calls Tryz.prog 216 #[.pointer (some ⟨g,0,none⟩),O U k,O U p,O U b] w fun e w'=>∃ vo',e=.returned (.tuple #[])∧az w' B g vt vo' { y with o:=dX k p b y.o }∧Below B w w':=by
 have b1:=(Below.refl w.heap.size w).alloc (Nat.le_refl _) (.cells #[O U k,O U p,O U b] 147)
 have L1:=ah.new w 147 #[O U k,O U p,O U b]
 have h1:=h.then b1
 have HC:=Lib.hid (oZ y.o hlt hold (b:=b))
 have hlo:∀ i (h:i < y.o.length),i < cQ y.o k p→iE y.o[i] ⟨k,p,b⟩ < 0:=fun i h hi=>l6.2 (nW y.o k p i h hi)
 have hhi:∀ i (h:i < y.o.length),cQ y.o k p≤i→¬ iE y.o[i] ⟨k,p,b⟩ < 0:=fun i h hi hc=>nX y.o k p ha i h hi (l6.1 hc)
 have hfd:∀ h:cQ y.o k p < y.o.length,true=decide (iE y.o[cQ y.o k p] ⟨k,p,b⟩=0):=fun h=>by rw [nv,hold]
 have hple:=qS y.o k p
 obtain ⟨go,cap,rest,rfl,hgo,hLo,hcap⟩:=bH h.o (by omega)
 have cB:∀ W,Below (w.alloc (.cells #[O U k,O U p,O U b] 147)).heap.size (w.alloc (.cells #[O U k,O U p,O U b] 147)) W→Calls Tryz.prog 235 #[F (some ⟨go,0,none⟩) y.o.length cap,.agg #[O U k,O U p,O U b],.func (.func 118) #[] #[]] W fun e w'=>e=.returned (.tuple #[O U (cQ y.o k p),.bool true])∧Below W.heap.size W w':=fun W hb =>
  ki (fun o=>iE o ⟨k,p,b⟩) ⟨k,p,b⟩ 118 #[] Tryz.call118 _ cap y.o W (fun t p=>nw t _ p.val) (aA (h1.then hb).o) (by omega) (cQ y.o k p) hple hlo hhi true hfd (fun e=>by omega)
 have hne : ¬ go=g:=fun e=>h.ne_to (by rw [← e]; rfl)
 have hne' : ¬ g=go:=fun e=>hne e.symm
 obtain ⟨q,hq⟩ : ∃ q,q=cQ y.o k p:=⟨_,rfl⟩
 have hlt' : q < y.o.length:=by rw [hq]; exact hlt
 have hcq:y.o[cQ y.o k p]=y.o[q]:=by congr 1; exact hq.symm
 rw [hcq] at hc HC
 rw [← hq] at cB HC hple
 obtain ⟨r,hre⟩ : ∃ r,r=y.o[q]:=⟨_,rfl⟩
 rw [← hre] at hc HC
 clear hcq hold hfd
 have hel:(y.o.flatMap ae.enc)[q * 3+2]?=some (O U r.c):=by rw [jj ae.enc 3 ae.enc_len y.o q hlt' 2 (by omega),← hre]; rfl
 have HSet:=Lib.hid (rt (c:=r.c+b) hlt')
 rw [← hre] at HSet
 have hq3:q * 3+2 < y.o.length * 3:=by omega
 clear hlo hhi ha hre hLo rest hq hlt
 obtain ⟨hc1,hc2⟩:=hc
 obtain ⟨hb1,hb2⟩:=hb
 go_enter Tryz.func216,Tryz.ntmps216
 go_wp2
 generalize w.alloc (.cells #[O U k,O U p,O U b] 147)=W at b1 L1 h1 cB ⊢
 have hc1:∀ r:an W.heap.size W,r.val.cell? ⟨g,1,none⟩=some (F (some ⟨go,0,none⟩) y.o.length cap):=fun r=>(r.cell h1.lies.lt).trans (h1.lies.cell 1)
 have hd0:∀ r:an W.heap.size W,r.val.cell? ⟨w.heap.size,0,none⟩=some (O U k):=fun r=>(r.cell L1.lt).trans (L1.cell 0)
 have hd1:∀ r:an W.heap.size W,r.val.cell? ⟨w.heap.size,1,none⟩=some (O U p):=fun r=>(r.cell L1.lt).trans (L1.cell 1)
 have hd2:∀ r:an W.heap.size W,r.val.cell? ⟨w.heap.size,2,none⟩=some (O U b):=fun r=>(r.cell L1.lt).trans (L1.cell 2)
 have cB':=fun r:an W.heap.size W=>cB r.val r.below
 refine ar (by kernel_rfl) (by kernel_rfl) ?_
 repeat (any_goals (first | go_big_quiet_step ((go_at_call 235; refine aK (Nat.le_refl _) (cB' _))) | (refine wpQuiet_step (fun K hK=>?_); go_simp; split <;> (refine hK _ ?_; clear hK K))))
 all_goals (refine wpQuiet_nil ?_; rintro _ ⟨q1,rfl⟩)
 have h2:=h1.then q1.below
 have b2:Below w.heap.size w q1.val:=b1.trans (q1.below.mono b1.size)
 have hBq:B≤q1.val.heap.size:=Nat.le_trans hB b2.size
 clear hc1 cB cB' h1 b1 hd0 hd1 hd2
 have c1:q1.val.cell? ⟨g,1,none⟩=some (F (some ⟨go,0,none⟩) y.o.length cap):=h2.lies.cell 1
 have c1f:q1.val.frozen? ⟨g,1,none⟩=false:=h2.lies.frozen 1
 have c2:q1.val.cell? ⟨go,q * 3+2,none⟩=some (O U r.c):=(h2.o.cellAt _ hq3).trans hel
 have c2f:q1.val.frozen? ⟨go,q * 3+2,none⟩=false:=h2.o.frozenAt _
 have hO3:=lC h2.o (q * 3+2) (O U (r.c+b)) hq3
 rw [HSet.out] at hO3
 have hL3:=h2.lies.other (p:=⟨go,q * 3+2,none⟩) hne' (O U (r.c+b))
 have hT3:=ej (w':=q1.val.setCell ⟨go,q * 3+2,none⟩ (O U (r.c+b))) h2.t h2.o qR (ab (World.grownBy.refl q1.val (some go)))
 have b3:Below B w (q1.val.setCell ⟨go,q * 3+2,none⟩ (O U (r.c+b))):=(b2.mono hB).grown (ab (World.grownBy.refl q1.val (some go))) hBq (by rintro _ ⟨⟩; exact hgo)
 have s3:q1.val.heap.size≤(q1.val.setCell ⟨go,q * 3+2,none⟩ (O U (r.c+b))).heap.size:=by simp [World.setCell]
 by_cases hz:r.c+b=0
 ·have HZ:=Lib.hid hz
  have hz' : (r.c+b == 0)=true:=by simp [hz]
  clear hz
  rw [if_pos HZ.out] at HC
  have hOwn:az (q1.val.setCell ⟨go,q * 3+2,none⟩ (O U (r.c+b))) B g vt (F (some ⟨go,0,none⟩) y.o.length cap) { y with o:=y.o.set q ⟨r.k,r.p,r.c+b⟩ }:=⟨hL3,h.hg,hT3,by simpa using hO3⟩
  have cD:=m8 B (F (some ⟨go,0,none⟩) y.o.length cap) y.o.length ((y.o.set q ⟨r.k,r.p,r.c+b⟩).flatMap ae.enc) (q1.val.setCell ⟨go,q * 3+2,none⟩ (O U (r.c+b))) hO3 (by omega) q hlt' ex
  rw [← sM ae.enc 3 ae.enc_len,List.take_set_of_le (Nat.le_refl _),List.drop_set_of_lt (Nat.lt_succ_self _),← HC.out] at cD
  have hlen:y.o.length - 1=(dX k p b y.o).length:=by rw [HC.out]; simp; omega
  rw [hlen] at cD
  have HLen:=Lib.hid hlen; clear hlen
  have HOwn:=Lib.hid hOwn; clear hOwn
  go_wp2_with fail
  refine cD.mono ?_
  rintro e w9 ⟨v',rfl,HO,hg9,_⟩
  obtain ⟨A9,c9,rfl⟩:=av HO
  have hL9:=HOwn.out.lies.kept hg9 (fun e=>HOwn.out.ne_to e.symm)
  have k1:=hL9.cell 1
  have k2:=hL9.frozen 1
  simp only [List.getElem?_cons_zero,List.getElem?_cons_succ] at k1
  have hO:=HOwn.out.setO hg9 HO
  have b9:Below B w w9:=b3.grown hg9 (Nat.le_trans hB b3.size) (fun j hj=>(HOwn.out.o.lt _ hj).1)
  have b10:=b9.grown (ab (g:=g) (i:=1) (u:=F A9 (dX k p b y.o).length c9) (World.grownBy.refl w9 (some g))) (Nat.le_trans hB b9.size) (by rintro _ ⟨⟩; exact h.hg)
  go_wp2
  go_end0
  exact ⟨_,rfl,hO,b10⟩
 ·have HZ:=Lib.hid hz
  have hz' : (r.c+b == 0)=false:=by simp [hz]
  clear hz
  rw [if_neg HZ.out] at HC
  go_wp2
  go_end0
  exact ⟨_,rfl,⟨hL3,h.hg,hT3,by rw [HC.out]; simpa using hO3⟩,b3⟩
theorem fA (B g:Nat) (vt vo:Value) (y:Oc) (k p b:Int) (w:World) (h:az w B g vt vo y) (hB:B≤w.heap.size) (ha:mZ y.o) (hn:y.o.length≤100000) (hc:∀ o ∈ y.o, -1000000000≤o.c∧o.c≤1000000000) (hb : -1000000000≤b∧b≤1000000000) :
  Calls Tryz.prog 216 #[.pointer (some ⟨g,0,none⟩),O U k,O U p,O U b] w fun e w'=>∃ vo',e=.returned (.tuple #[])∧az w' B g vt vo' { y with o:=dX k p b y.o }∧Below B w w':=by
 by_cases h0:∃ h:cQ y.o k p < y.o.length,eu k p y.o[cQ y.o k p]=true
 ·obtain ⟨hlt,hi⟩:=h0
  exact qc B g vt vo y k p b w h hB ha hn hlt hi (hc _ (List.getElem_mem _)) hb
 ·exact qb B g vt vo y k p b w h hB ha hn (fun h'=>by
   cases hi:eu k p y.o[cQ y.o k p]
   ·rfl
   ·exact absurd ⟨h',hi⟩ h0)
end Go.Proofs.YtoeoimhemojdeaaGreatDoor
