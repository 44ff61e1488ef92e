/- Lemmas. -/
import Derived.Test.YtoeoimhemojdeaaGreatDoorFs03

set_option linter.unusedVariables false
set_option linter.unusedSimpArgs false
set_option maxHeartbeats 8000000
open Go.Value renaming int → O, slice → F, string → wG
open Go.IntKind renaming i64 → U
open Go.Proofs.Tryz renaming prog → wH

namespace Go.Proofs.YtoeoimhemojdeaaGreatDoor
open Go.RowKit
theorem nJ {n:Nat} {p:Int} {l:List aq} {k:Nat} (h:k < l.length):du n p (l.drop k)=(l[k].ok && (decide (n=0) || decide (p < l[k].k)) && du (n+1) l[k].k (l.drop (k+1))):=by
 rw [List.drop_eq_getElem_cons h]; rfl
theorem pK (x:aO) (w:World) (h:aQ w w.heap.size x) :
  Calls wH 130 #[x.val] w fun e w'=>e=.returned (.bool (fo x.t && decide (x.t.length≤8)))∧Below w.heap.size w w':=by
 have hl:=h.ts.big
 go_enter Tryz.func130,Tryz.ntmps130
 go_wp2
 have hb0:=bZ w (.cells #[F x.TA x.t.length x.tc,F x.OA x.o.length x.oc,O U x.gt,O U x.sd,O U x.ms] 40)
 have hS:=nI.of (x:=x) (ai.new w 40 #[F x.TA x.t.length x.tc,F x.OA x.o.length x.oc,O U x.gt,O U x.sd,O U x.ms])
 have hR:=h.up hb0 nR
 generalize w.alloc (.cells #[F x.TA x.t.length x.tc,F x.OA x.o.length x.oc,O U x.gt,O U x.sd,O U x.ms] 40)=W at hb0 hS hR ⊢
 have c0:=hS.c0
 have yn:=hR.ts.el
 go_loopw [3] (fun i wr=>∃ (k:Nat) (prev:Int),k≤x.t.length∧i=O U k∧(∃ q:ap W.heap.size W,wr=q.val)∧Hid (du k prev (x.t.drop k)=fo x.t)∧Hid (∀ (_hk:0 < k) (h' : k - 1 < x.t.length),prev=x.t[k - 1].k)) (fun i _=>x.t.length - (intOf i).toNat)
 case atStart=>exact ⟨0,0,Nat.zero_le _,rfl,⟨ap.start _ _,rfl⟩,rfl,fun h=>absurd h oM⟩
 case round =>
  obtain ⟨k,prev,hk,rfl,⟨q,rfl⟩,HR,HP⟩:=hrel
  by_cases wQ:k < x.t.length
  ·obtain ⟨b,off,hA,hb,hcell⟩:=yn oM
   obtain ⟨e0,e1⟩:=hcell k wQ
   have HC:Hid (0 < k→∀ p:ap W.heap.size W,p.val.cell? ⟨b,off+(k - 1) * 2,none⟩=some (O U prev)):=fun h p=>by
    rw [HP.out h oM]; exact (hcell (k - 1) oM).c0 p
   have HS:=jZ (nJ (n:=k) (p:=prev) wQ)
   obtain ⟨r,xy⟩ : ∃ r,r=x.t[k]:=⟨_,rfl⟩
   have HN:Hid (∀ (_hk:0 < k+1) (h' : k+1 - 1 < x.t.length),r.k=x.t[k+1 - 1].k):=fun _ h'=>by rw [xy]; rfl
   rw [← xy] at e0 e1 HS
   simp only [hA] at c0
   clear xy hcell yn hA
   go_wp2
   have hbV:=q.below.alloc q.size (.cells #[O U r.k,O U r.c] 104)
   have hlV:=ai.new q.val 104 #[O U r.k,O U r.c]
   generalize q.val.alloc (.cells #[O U r.k,O U r.c] 104)=V at hbV hlV ⊢
   generalize q.val.heap.size=gv at hlV ⊢
   obtain ⟨d0,d1⟩:=mL.of (r:=r) hlV
   have c0' : ∀ p:ap V.heap.size V,p.val.cell? ⟨w.heap.size,0,none⟩=some (F (some ⟨b,off,none⟩) x.t.length x.tc):=fun p=>c0 ⟨p.val,hbV.trans (p.below.mono hbV.size)⟩
   have xf:Hid (r.ok=(cg r.k 1 99 && cg r.c 0 9999)):=rfl
   clear e0 e1 c0
   obtain ⟨v1,AW⟩ : ∃ v,cg r.k 1 99=v:=⟨_,rfl⟩
   obtain ⟨v2,xw⟩ : ∃ v,cg r.c 0 9999=v:=⟨_,rfl⟩
   rw [AW,xw] at xf
   have zh:=jZ AW; clear AW
   have yt:=jZ xw; clear xw
   rcases Nat.eq_zero_or_pos k with h0 | h0
   ·have hd:decide (0 < k)=false:=jE oM
    have H0:=jZ h0; clear h0
    cases v1
    ·refine au kZ kZ ?_
     repeat (any_goals (first | go_big_quiet_step ((go_at_call 134; with_reducible refine aB zh (aK r.k 1 99 _))) | (refine wpQuiet_step (fun K hK=>?_); go_simp; split <;> (refine hK _ ?_; clear hK K))))
     all_goals (refine wpQuiet_nil ?_; rintro _ ⟨q1,rfl⟩)
     all_goals have wN:=hb0.trans ((hbV.trans (q1.below.mono hbV.size)).mono hb0.size)
     all_goals go_wp2
     go_ret
     refine ⟨?_,wN⟩
     rw [← HR.out,HS.out,xf.out]; rfl
    ·cases v2
     all_goals
      refine au kZ kZ ?_
      repeat (any_goals (first | go_big_quiet_step ((first | (go_at_call 134; with_reducible refine aB zh (aK r.k 1 99 _)) | (go_at_call 134; with_reducible refine aB yt (aK r.c 0 9999 _)))) | (refine wpQuiet_step (fun K hK=>?_); go_simp; split <;> (refine hK _ ?_; clear hK K))))
      all_goals (refine wpQuiet_nil ?_; rintro _ ⟨q1,rfl⟩)
      all_goals have wN:=hb0.trans ((hbV.trans (q1.below.mono hbV.size)).mono hb0.size)
      all_goals go_wp2
     ·go_ret
      refine ⟨?_,wN⟩
      rw [← HR.out,HS.out,xf.out]; rfl
     ·go_roundw
      case rel=>exact ⟨k+1,r.k,oM,by go_num,⟨⟨_,hbV.trans (q1.below.mono hbV.size)⟩,rfl⟩,by have h1:=HR.out; rw [HS.out,xf.out,jD H0.out] at h1; exact h1,HN⟩
      case measure=>simp [intOf]; omega
   ·have c5:∀ p:ap V.heap.size V,p.val.cell? ⟨b,off+(k - 1) * 2,none⟩=some (O U prev):=fun p=>HC.out h0 ⟨p.val,hbV.trans (p.below.mono hbV.size)⟩
    have h0' : (0:Int) < (k:Int):=oM
    cases v1
    ·refine au kZ kZ ?_
     repeat (any_goals (first | go_big_quiet_step ((go_at_call 134; with_reducible refine aB zh (aK r.k 1 99 _))) | (refine wpQuiet_step (fun K hK=>?_); go_simp; split <;> (refine hK _ ?_; clear hK K))))
     all_goals (refine wpQuiet_nil ?_; rintro _ ⟨q1,rfl⟩)
     all_goals have wN:=hb0.trans ((hbV.trans (q1.below.mono hbV.size)).mono hb0.size)
     all_goals go_wp2
     go_ret
     refine ⟨?_,wN⟩
     rw [← HR.out,HS.out,xf.out]; rfl
    ·cases v2
     all_goals
      refine au kZ kZ ?_
      repeat (any_goals (first | go_big_quiet_step ((first | (go_at_call 134; with_reducible refine aB zh (aK r.k 1 99 _)) | (go_at_call 134; with_reducible refine aB yt (aK r.c 0 9999 _)))) | (refine wpQuiet_step (fun K hK=>?_); go_simp; split <;> (refine hK _ ?_; clear hK K))))
      all_goals (refine wpQuiet_nil ?_; rintro _ ⟨q1,rfl⟩)
      all_goals have wN:=hb0.trans ((hbV.trans (q1.below.mono hbV.size)).mono hb0.size)
      all_goals go_wp2
     ·go_ret
      refine ⟨?_,wN⟩
      rw [← HR.out,HS.out,xf.out]; rfl
     ·go_ret
      refine ⟨?_,wN⟩
      have hm:r.k≤prev:=by assumption
      rw [← HR.out,HS.out,xf.out,jE (by omega : ¬ k=0),jE (by omega : ¬ prev < r.k)]; rfl
     ·have hm:prev < r.k:=by assumption
      go_roundw
      case rel=>exact ⟨k+1,r.k,oM,by go_num,⟨⟨_,hbV.trans (q1.below.mono hbV.size)⟩,rfl⟩,by have h1:=HR.out; rw [HS.out,xf.out,jD hm,Bool.or_true] at h1; exact h1,HN⟩
      case measure=>simp [intOf]; omega
  ·have HK:Hid (fo x.t=true):=by
    have h1:=HR.out
    rw [List.drop_eq_nil_of_le oM] at h1; exact h1.symm
   clear yn
   go_wp2
   go_ret
   refine ⟨?_,hb0.trans (q.below.mono hb0.size)⟩
   rw [HK.out,Bool.true_and]
   exact congrArg (fun b=>Ending.returned (.bool b)) (decide_eq_decide.2 oM)
theorem aU {P:Program} {f:FuncId} {args:Array Value} {B:Nat} {w:World} {q:ap B w} {v v' : Value} (hv:Hid (v=v')) (hB:B≤w.heap.size)
  (h:Calls P f args q.val fun e w'=>e=.returned v∧Below q.val.heap.size q.val w'):Calls P f args q.val fun e w'=>e=.returned v'∧∃ q' : ap B w,w'=q'.val:=by
 have:=hv.out; subst this; exact aC hB h
theorem bO (x:aO) (kd:Int) (w:World) (h:aQ w w.heap.size x) :
  Calls wH 174 #[x.val,O U kd] w fun e w'=>e=.returned (O U (ay x.t kd))∧Below w.heap.size w w':=by
 have hl:=h.ts.big
 have HF:Hid (bv (fun t:aq=>decide (t.k=kd)) 0 (x.t.drop 0)=ay x.t kd):=rfl
 go_enter Tryz.func174,Tryz.ntmps174
 go_wp2
 have hb0:=bZ w (.cells #[F x.TA x.t.length x.tc,F x.OA x.o.length x.oc,O U x.gt,O U x.sd,O U x.ms] 40)
 have hS:=nI.of (x:=x) (ai.new w 40 #[F x.TA x.t.length x.tc,F x.OA x.o.length x.oc,O U x.gt,O U x.sd,O U x.ms])
 have hR:=h.up hb0 nR
 generalize w.alloc (.cells #[F x.TA x.t.length x.tc,F x.OA x.o.length x.oc,O U x.gt,O U x.sd,O U x.ms] 40)=W at hb0 hS hR ⊢
 have c0:=hS.c0
 have yn:=hR.ts.el
 go_loopw [5] (fun i wr=>∃ (k:Nat),k≤x.t.length∧i=O U k∧(∃ q:ap W.heap.size W,wr=q.val)∧Hid (bv (fun t:aq=>decide (t.k=kd)) k (x.t.drop k)=ay x.t kd)) (fun i _=>x.t.length - (intOf i).toNat)
 case atStart=>exact ⟨0,Nat.zero_le _,rfl,⟨ap.start _ _,rfl⟩,HF⟩
 case round =>
  obtain ⟨k,hk,rfl,⟨q,rfl⟩,HR⟩:=hrel
  by_cases wQ:k < x.t.length
  ·obtain ⟨b,off,hA,hb,hcell⟩:=yn oM
   obtain ⟨e0,e1⟩:=hcell k wQ
   have hy:=fun hv=>td (f:=fun t:aq=>decide (t.k=kd)) wQ hv
   have hn:=fun hv=>uH (f:=fun t:aq=>decide (t.k=kd)) wQ hv
   obtain ⟨r,xy⟩ : ∃ r,r=x.t[k]:=⟨_,rfl⟩
   rw [← xy] at e0 e1 hy hn
   simp only [hA] at c0
   clear xy hcell yn hA
   by_cases hz:r.k=kd
   ·have HE:Hid ((k:Int)=ay x.t kd):=by rw [← hy (jD hz)]; exact HR.out
    have hv:(r.k == kd)=true:=by simp [hz]
    clear hy hn hz
    go_wp2
    go_ret
    exact ⟨by rw [← HE.out]; rfl,hb0.trans (q.below.mono hb0.size)⟩
   ·have HE:Hid (bv (fun t:aq=>decide (t.k=kd)) (k+1) (x.t.drop (k+1))=ay x.t kd):=by rw [← hn (jE hz)]; exact HR.out
    have hv:(r.k == kd)=false:=by simp [hz]
    clear hy hn hz
    go_wp2
    go_roundw
    case rel=>exact ⟨k+1,oM,by go_num,⟨q,rfl⟩,HE⟩
    case measure=>simp [intOf]; omega
  ·have HE:Hid (-1=ay x.t kd):=by
    have h1:=HR.out; rw [List.drop_eq_nil_of_le oM] at h1; exact h1
   clear yn
   go_wp2
   go_ret
   exact ⟨by rw [← HE.out]; rfl,hb0.trans (q.below.mono hb0.size)⟩
theorem js (r:ae) (w:World) (h1:1≤r.k∧r.k≤99) (h2:1≤r.p∧r.p≤999) :
  Calls wH 176 #[r.val] w fun e w'=>e=.returned (O U (1000 * r.k+r.p))∧Below w.heap.size w w':=by
 obtain ⟨a1,a2⟩:=h1
 obtain ⟨b1,b2⟩:=h2
 have m:IntKind.i64.wrap (1000 * r.k)=1000 * r.k:=IntWalk.i64_in _ oM
 have s:IntKind.i64.wrap (1000 * r.k+r.p)=1000 * r.k+r.p:=IntWalk.i64_in _ oM
 go_enter Tryz.func176,Tryz.ntmps176
 go_wp2
 first
  | (go_ret; exact ⟨rfl,jB.alloc nR _⟩)
  | (go_quiet (fail); go_wp2; go_ret; exact ⟨rfl,by go_grown⟩)
theorem pd {ts:List aq} {p:Option ae} {l:List ae} {k:Nat} (h:k < l.length):dV ts p (l.drop k)=(l[k].ok ts && (match p with | none=>true | some q=>before q l[k]) && dV ts (some l[k]) (l.drop (k+1))):=by
 rw [List.drop_eq_getElem_cons h]; rfl
end Go.Proofs.YtoeoimhemojdeaaGreatDoor
