/- Lemmas. -/
import Derived.Test.YtoeoimhemojdeaaGreatDoorFs28

set_option linter.unusedVariables false
set_option linter.unusedSimpArgs false
set_option maxHeartbeats 8000000
open Go.Value renaming int → O, slice → F, string → wG
open Go.IntKind renaming i64 → U
open Go.Proofs.Tryz renaming prog → wH

namespace Go.Proofs.YtoeoimhemojdeaaGreatDoor
open Go.RowKit
def aT (sel:ae→Bool) (get:ae→Int):List ae→List Int
 | []=>[]
 | r :: l=>if sel r then get r :: aT sel get l else aT sel get l
theorem kH {sel:ae→Bool} {get:ae→Int} {l:List ae} {k:Nat} (h:k < l.length) (hs:sel l[k]=true):aT sel get (l.drop k)=get l[k] :: aT sel get (l.drop (k+1)):=by
 rw [List.drop_eq_getElem_cons h,aT,if_pos hs]
theorem lP {sel:ae→Bool} {get:ae→Int} {l:List ae} {k:Nat} (h:k < l.length) (hs:sel l[k]=false):aT sel get (l.drop k)=aT sel get (l.drop (k+1)):=by
 rw [List.drop_eq_getElem_cons h,aT,if_neg (by rw [hs]; exact Bool.false_ne_true)]
theorem mv (sel:ae→Bool) (get:ae→Int):∀ l:List ae,(aT sel get l).length≤l.length
 | []=>Nat.le_refl _
 | r :: l=>by
  have:=mv sel get l
  unfold aT
  split <;> simp <;> omega
def bC (ok:Bool) (l:List Int):List Int:=if ok then l else []
theorem cz.lower {w:World} {B B' : Nat} {t:TypeId} {k:Nat} {A:Option Addr} {n:Nat} {cs:List Value} (h:cz w B t k A n cs) (hB:B'≤B):cz w B' t k A n cs:=by
 obtain ⟨hl,hn,h0 | ⟨g,rest,hA,hg,hh⟩⟩:=h
 ·exact ⟨hl,hn,.inl h0⟩
 ·exact ⟨hl,hn,.inr ⟨g,rest,hA,jT hB hg,hh⟩⟩
theorem nk (x:aO) (st:Int) (w:World) (h:aQ w w.heap.size x) :
  Calls wH 140 #[x.val,O U st] w fun e w'=>∃ A' c',e=.returned (.tuple #[F A' (bC (ao x && cg st 1 999) (aT (fun r:ae=>decide (r.p=st)) ae.k x.o)).length c',.bool (ao x && cg st 1 999)])∧cz w' w.heap.size 3 1 A' (bC (ao x && cg st 1 999) (aT (fun r:ae=>decide (r.p=st)) ae.k x.o)).length (bi (bC (ao x && cg st 1 999) (aT (fun r:ae=>decide (r.p=st)) ae.k x.o)))∧Below w.heap.size w w':=by
 have b2:=bZ w (.cells #[F x.TA x.t.length x.tc,F x.OA x.o.length x.oc,O U x.gt,O U x.sd,O U x.ms] 40)
 have hA:=il h 40
 have hsW:(w.alloc (.cells #[F x.TA x.t.length x.tc,F x.OA x.o.length x.oc,O U x.gt,O U x.sd,O U x.ms] 40)).heap.size=w.heap.size+1:=Array.size_push _
 have zN:=jZ hsW; clear hsW
 have cG:=fun W hW=>er x W hW
 cases hg:ao x
 ·rw [hg] at cG
  clear hg
  go_enter Tryz.func140,Tryz.ntmps140
  go_wp2_with fail
  generalize (w.alloc (.cells #[F x.TA x.t.length x.tc,F x.OA x.o.length x.oc,O U x.gt,O U x.sd,O U x.ms] 40))=W at b2 hA zN ⊢
  obtain ⟨q0,yQ⟩ : ∃ q0:ap W.heap.size W,W.alloc (.cells #[] 3)=q0.val:=⟨⟨W.alloc (.cells #[] 3),jB.alloc nR _⟩,rfl⟩
  have hO:ai q0.val (w.heap.size+1) 3 []:=by rw [← yQ,← zN.out]; exact ai.new W 3 #[]
  rw [yQ]
  clear yQ
  refine (cG _ (hA.r.at q0)).mono ?_
  rintro e w1 ⟨rfl,wN⟩
  obtain ⟨q1,rfl⟩ : ∃ q1:ap W.heap.size W,w1=q1.val:=⟨q0.go nR wN,rfl⟩
  go_wp2
  go_ret2
  show ∃ A' c',_=Ending.returned (.tuple #[F A' ([] : List Int).length c',.bool false])∧cz _ _ _ 1 A' ([] : List Int).length (bi [])∧_
  exact ⟨_,_,rfl,⟨rfl,sP,.inr ⟨w.heap.size+1,[],rfl,Nat.le_succ _,by simpa using (hO.below (wN) hO.lt)⟩⟩,b2.trans (q1.below.mono b2.size)⟩
 ·rw [hg] at cG
  have G:=br.1 hg
  have ol:=G.ol
  have hl:=h.os.big
  clear hg G
  obtain ⟨v2,xw⟩ : ∃ v,cg st 1 999=v:=⟨_,rfl⟩
  have H2:=jZ xw
  rw [xw]
  clear xw
  cases v2
  ·go_enter Tryz.func140,Tryz.ntmps140
   go_wp2_with fail
   generalize (w.alloc (.cells #[F x.TA x.t.length x.tc,F x.OA x.o.length x.oc,O U x.gt,O U x.sd,O U x.ms] 40))=W at b2 hA zN ⊢
   obtain ⟨q0,yQ⟩ : ∃ q0:ap W.heap.size W,W.alloc (.cells #[] 3)=q0.val:=⟨⟨W.alloc (.cells #[] 3),jB.alloc nR _⟩,rfl⟩
   have hO:ai q0.val (w.heap.size+1) 3 []:=by rw [← yQ,← zN.out]; exact ai.new W 3 #[]
   rw [yQ]
   clear yQ
   obtain ⟨p0,p1,p2,p3,p4⟩:=hA.s
   refine (cG _ (hA.r.at q0)).mono ?_
   rintro e w1 ⟨rfl,wN⟩
   obtain ⟨q1,rfl⟩ : ∃ q1:ap W.heap.size W,w1=q1.val:=⟨q0.go nR wN,rfl⟩
   go_wp2_with fail
   refine ((aK st 1 999 _)).mono ?_
   rw [H2.out]
   rintro e w2 ⟨rfl,rfl⟩
   go_wp2
   go_ret2
   show ∃ A' c',_=Ending.returned (.tuple #[F A' ([] : List Int).length c',.bool false])∧cz _ _ _ 1 A' ([] : List Int).length (bi [])∧_
   exact ⟨_,_,rfl,⟨rfl,sP,.inr ⟨w.heap.size+1,[],rfl,Nat.le_succ _,by simpa using (hO.below (wN) hO.lt)⟩⟩,b2.trans (q1.below.mono b2.size)⟩
  ·have HF:Hid (aT (fun r:ae=>decide (r.p=st)) ae.k (x.o.drop 0)=aT (fun r:ae=>decide (r.p=st)) ae.k x.o):=rfl
   go_enter Tryz.func140,Tryz.ntmps140
   go_wp2_with fail
   generalize (w.alloc (.cells #[F x.TA x.t.length x.tc,F x.OA x.o.length x.oc,O U x.gt,O U x.sd,O U x.ms] 40))=W at b2 hA zN ⊢
   obtain ⟨q0,yQ⟩ : ∃ q0:ap W.heap.size W,W.alloc (.cells #[] 3)=q0.val:=⟨⟨W.alloc (.cells #[] 3),jB.alloc nR _⟩,rfl⟩
   have hO:ai q0.val (w.heap.size+1) 3 []:=by rw [← yQ,← zN.out]; exact ai.new W 3 #[]
   rw [yQ]
   clear yQ
   obtain ⟨p0,p1,p2,p3,p4⟩:=hA.s
   have xS:=hA.r.os.el
   refine (cG _ (hA.r.at q0)).mono ?_
   rintro e w1 ⟨rfl,wN⟩
   obtain ⟨q1,rfl⟩ : ∃ q1:ap W.heap.size W,w1=q1.val:=⟨q0.go nR wN,rfl⟩
   go_wp2_with fail
   refine ((aK st 1 999 _)).mono ?_
   rw [H2.out]
   rintro e w2 ⟨rfl,rfl⟩
   obtain ⟨OA,yf⟩ : ∃ A,x.OA=A:=⟨_,rfl⟩
   rw [yf] at xS
   simp only [yf] at p1
   clear yf
   go_wp2
   go_loopw [6,7] (fun out i wr=>∃ (k:Nat) (acc:List Int),k≤x.o.length∧i=O U k∧acc.length≤k∧Hid (wr.ownsRow W.heap.size 3 1 out acc.length (bi acc))∧(Below W.heap.size W wr)∧Hid (acc++aT (fun r:ae=>decide (r.p=st)) ae.k (x.o.drop k)=aT (fun r:ae=>decide (r.p=st)) ae.k x.o)) (fun _ i _=>x.o.length - (intOf i).toNat)
   case atStart=>exact ⟨0,[],Nat.zero_le _,rfl,Nat.zero_le _,((hO.below (wN) hO.lt).own (B:=W.heap.size) (k:=1) (n:=0) (by rw [zN.out]; exact Nat.le_refl _) rfl (by unfold maxLen; omega)),q1.below,HF⟩
   case round =>
    obtain ⟨k,acc,hk,rfl,Am,HO,yM,HR⟩:=hrel
    obtain ⟨q,rfl⟩ : ∃ q:ap W.heap.size W,wr=q.val:=⟨⟨wr,yM⟩,rfl⟩
    by_cases wQ:k < x.o.length
    ·obtain ⟨b,off,rfl,hb,hcell⟩:=xS oM
     obtain ⟨e0,e1,e2⟩:=hcell k wQ
     have hy:=fun hv=>kH (sel:=(fun r:ae=>decide (r.p=st))) (get:=ae.k) wQ hv
     have hn:=fun hv=>lP (sel:=(fun r:ae=>decide (r.p=st))) (get:=ae.k) wQ hv
     obtain ⟨r,xy⟩ : ∃ r,r=x.o[k]:=⟨_,rfl⟩
     rw [← xy] at e0 e1 e2 hy hn
     clear xy hcell xS
     by_cases hz:r.p=st
     ·have hv:(r.p == st)=true:=by simp [hz]
      have HE:Hid ((acc++[r.k])++aT (fun r:ae=>decide (r.p=st)) ae.k (x.o.drop (k+1))=aT (fun r:ae=>decide (r.p=st)) ae.k x.o):=by
       have h1:=HR.out; rw [hy (jD hz)] at h1; unfold Hid; rw [List.append_assoc]; exact h1
      clear hy hn hz HR
      go_wp2_with (at_builtin; refine cF (w0:=q.val) rfl _ _ 100 rfl 3 (O U 0) 1 8 Tryz.underlying100 iO rfl (by decide) (by omega) W.heap.size _ _ _ rfl HO #[O U r.k] 1 _ rfl (by first | rfl | exact Array.size_push _) rfl (by simp [Value.oneCell']) (by omega) q.size rfl rfl rfl rfl ?_; intro v' w3 AO hg3 wZ)
      obtain ⟨A3,c3,rfl⟩:=az AO.out
      go_wp2
      go_roundw
      case rel=>exact ⟨k+1,acc++[r.k],oM,by go_num,by simp; omega,by rw [List.length_append]; unfold bi at AO ⊢; rw [List.map_append]; exact AO,q.below.grown hg3 q.size (fun g hg=>(HO.out.lt g hg).1),HE⟩
      case measure=>simp [intOf]; omega
     ·have hv:(r.p == st)=false:=by simp [hz]
      have HE:Hid (acc++aT (fun r:ae=>decide (r.p=st)) ae.k (x.o.drop (k+1))=aT (fun r:ae=>decide (r.p=st)) ae.k x.o):=by
       have h1:=HR.out; rw [hn (jE hz)] at h1; exact h1
      clear hy hn hz HR
      go_wp2
      go_roundw
      case rel=>exact ⟨k+1,acc,oM,by go_num,oM,HO,q.below,HE⟩
      case measure=>simp [intOf]; omega
    ·have HE:Hid (acc=aT (fun r:ae=>decide (r.p=st)) ae.k x.o):=by
      have h1:=HR.out; rw [List.drop_eq_nil_of_le oM,show aT (fun r:ae=>decide (r.p=st)) ae.k [] = [] from rfl,List.append_nil] at h1; exact h1
     obtain ⟨A3,c3,rfl⟩:=az HO.out
     clear xS
     go_wp2
     go_ret2
     have e1:bC (true && true) (aT (fun r:ae=>decide (r.p=st)) ae.k x.o)=acc:=HE.out.symm
     rw [e1]
     exact ⟨_,_,rfl,(cz.of HO.out).lower b2.size,b2.trans (q.below.mono b2.size)⟩
theorem nl (x:aO) (st:Int) (w:World) (h:aQ w w.heap.size x) :
  Calls wH 154 #[x.val,O U st] w fun e w'=>∃ A' c',e=.returned (.tuple #[F A' (bC (ao x && cg st 1 999) (aT (fun r:ae=>decide (r.p=st)) ae.k x.o)).length c',.bool (ao x && cg st 1 999)])∧cz w' w.heap.size 3 1 A' (bC (ao x && cg st 1 999) (aT (fun r:ae=>decide (r.p=st)) ae.k x.o)).length (bi (bC (ao x && cg st 1 999) (aT (fun r:ae=>decide (r.p=st)) ae.k x.o)))∧Below w.heap.size w w':=by
 have b2:=bZ w (.cells #[F x.TA x.t.length x.tc,F x.OA x.o.length x.oc,O U x.gt,O U x.sd,O U x.ms] 40)
 have hA:=il h 40
 have hsW:(w.alloc (.cells #[F x.TA x.t.length x.tc,F x.OA x.o.length x.oc,O U x.gt,O U x.sd,O U x.ms] 40)).heap.size=w.heap.size+1:=Array.size_push _
 have zN:=jZ hsW; clear hsW
 have cG:=fun W hW=>bc x w.heap.size W hW
 cases hg:ao x
 ·rw [hg] at cG
  clear hg
  go_enter Tryz.func154,Tryz.ntmps154
  go_wp2_with fail
  generalize (w.alloc (.cells #[F x.TA x.t.length x.tc,F x.OA x.o.length x.oc,O U x.gt,O U x.sd,O U x.ms] 40))=W at b2 hA zN ⊢
  refine (aY (cG _ hA)).mono ?_
  rintro e w1 ⟨rfl,q1,rfl⟩
  go_wp2
  go_ret2
  show ∃ A' c',_=Ending.returned (.tuple #[F A' ([] : List Int).length c',.bool false])∧cz _ _ _ 1 A' ([] : List Int).length (bi [])∧_
  exact ⟨_,_,rfl,⟨rfl,sP,.inl ⟨rfl,rfl⟩⟩,b2.trans (q1.below.mono b2.size)⟩
 ·rw [hg] at cG
  have G:=br.1 hg
  have ol:=G.ol
  have hl:=h.os.big
  clear hg G
  obtain ⟨v2,xw⟩ : ∃ v,cg st 1 999=v:=⟨_,rfl⟩
  have H2:=jZ xw
  rw [xw]
  clear xw
  cases v2
  ·go_enter Tryz.func154,Tryz.ntmps154
   go_wp2_with fail
   generalize (w.alloc (.cells #[F x.TA x.t.length x.tc,F x.OA x.o.length x.oc,O U x.gt,O U x.sd,O U x.ms] 40))=W at b2 hA zN ⊢
   obtain ⟨p0,p1,p2,p3,p4⟩:=hA.s
   refine (aY (cG _ hA)).mono ?_
   rintro e w1 ⟨rfl,q1,rfl⟩
   go_wp2_with fail
   refine ((bQ st _)).mono ?_
   rw [H2.out]
   rintro e w2 ⟨rfl,rfl⟩
   go_wp2
   go_ret2
   show ∃ A' c',_=Ending.returned (.tuple #[F A' ([] : List Int).length c',.bool false])∧cz _ _ _ 1 A' ([] : List Int).length (bi [])∧_
   exact ⟨_,_,rfl,⟨rfl,sP,.inl ⟨rfl,rfl⟩⟩,b2.trans (q1.below.mono b2.size)⟩
  ·have HF:Hid (aT (fun r:ae=>decide (r.p=st)) ae.k (x.o.drop 0)=aT (fun r:ae=>decide (r.p=st)) ae.k x.o):=rfl
   go_enter Tryz.func154,Tryz.ntmps154
   go_wp2_with fail
   generalize (w.alloc (.cells #[F x.TA x.t.length x.tc,F x.OA x.o.length x.oc,O U x.gt,O U x.sd,O U x.ms] 40))=W at b2 hA zN ⊢
   obtain ⟨p0,p1,p2,p3,p4⟩:=hA.s
   have xS:=hA.r.os.el
   refine (aY (cG _ hA)).mono ?_
   rintro e w1 ⟨rfl,q1,rfl⟩
   go_wp2_with fail
   refine ((bQ st _)).mono ?_
   rw [H2.out]
   rintro e w2 ⟨rfl,rfl⟩
   obtain ⟨OA,yf⟩ : ∃ A,x.OA=A:=⟨_,rfl⟩
   rw [yf] at xS
   simp only [yf] at p1
   clear yf
   go_wp2
   go_loopw [6,19] (fun out i wr=>∃ (k:Nat) (acc:List Int),k≤x.o.length∧i=O U k∧acc.length≤k∧Hid (wr.ownsRow W.heap.size 3 1 out acc.length (bi acc))∧(Below W.heap.size W wr)∧Hid (acc++aT (fun r:ae=>decide (r.p=st)) ae.k (x.o.drop k)=aT (fun r:ae=>decide (r.p=st)) ae.k x.o)) (fun _ i _=>x.o.length - (intOf i).toNat)
   case atStart=>exact ⟨0,[],Nat.zero_le _,rfl,Nat.zero_le _,(World.ownsRow_nil _ _ _ _),q1.below,HF⟩
   case round =>
    obtain ⟨k,acc,hk,rfl,Am,HO,yM,HR⟩:=hrel
    obtain ⟨q,rfl⟩ : ∃ q:ap W.heap.size W,wr=q.val:=⟨⟨wr,yM⟩,rfl⟩
    by_cases wQ:k < x.o.length
    ·obtain ⟨b,off,rfl,hb,hcell⟩:=xS oM
     obtain ⟨e0,e1,e2⟩:=hcell k wQ
     have hy:=fun hv=>kH (sel:=(fun r:ae=>decide (r.p=st))) (get:=ae.k) wQ hv
     have hn:=fun hv=>lP (sel:=(fun r:ae=>decide (r.p=st))) (get:=ae.k) wQ hv
     obtain ⟨r,xy⟩ : ∃ r,r=x.o[k]:=⟨_,rfl⟩
     rw [← xy] at e0 e1 e2 hy hn
     clear xy hcell xS
     by_cases hz:r.p=st
     ·have hv:(r.p == st)=true:=by simp [hz]
      have HE:Hid ((acc++[r.k])++aT (fun r:ae=>decide (r.p=st)) ae.k (x.o.drop (k+1))=aT (fun r:ae=>decide (r.p=st)) ae.k x.o):=by
       have h1:=HR.out; rw [hy (jD hz)] at h1; unfold Hid; rw [List.append_assoc]; exact h1
      clear hy hn hz HR
      have GQ:=jZ (HO.out.alloc (.cells #[O U r.k,O U r.p,O U r.c] 147))
      have hbV:=q.below.alloc q.size (.cells #[O U r.k,O U r.p,O U r.c] 147)
      have hsV:=hbV.size
      clear HO
      go_wp2_with (at_builtin; refine cF (w0:=q.val.alloc (.cells #[O U r.k,O U r.p,O U r.c] 147)) rfl _ _ 100 rfl 3 (O U 0) 1 8 Tryz.underlying100 iO rfl (by decide) (by omega) W.heap.size _ _ _ rfl GQ #[O U r.k] 1 _ rfl (by first | rfl | exact Array.size_push _) rfl (by simp [Value.oneCell']) (by omega) hsV rfl rfl rfl rfl ?_; intro v' w3 AO hg3 wZ)
      obtain ⟨A3,c3,rfl⟩:=az AO.out
      go_wp2
      go_roundw
      case rel=>exact ⟨k+1,acc++[r.k],oM,by go_num,by simp; omega,by rw [List.length_append]; unfold bi at AO ⊢; rw [List.map_append]; exact AO,hbV.grown hg3 hbV.size (fun g hg=>(GQ.out.lt g hg).1),HE⟩
      case measure=>simp [intOf]; omega
     ·have hv:(r.p == st)=false:=by simp [hz]
      have HE:Hid (acc++aT (fun r:ae=>decide (r.p=st)) ae.k (x.o.drop (k+1))=aT (fun r:ae=>decide (r.p=st)) ae.k x.o):=by
       have h1:=HR.out; rw [hn (jE hz)] at h1; exact h1
      clear hy hn hz HR
      go_wp2
      go_roundw
      case rel=>exact ⟨k+1,acc,oM,by go_num,oM,jZ (HO.out.alloc _),q.below.alloc q.size _,HE⟩
      case measure=>simp [intOf]; omega
    ·have HE:Hid (acc=aT (fun r:ae=>decide (r.p=st)) ae.k x.o):=by
      have h1:=HR.out; rw [List.drop_eq_nil_of_le oM,show aT (fun r:ae=>decide (r.p=st)) ae.k [] = [] from rfl,List.append_nil] at h1; exact h1
     obtain ⟨A3,c3,rfl⟩:=az HO.out
     clear xS
     go_wp2
     go_ret2
     have e1:bC (true && true) (aT (fun r:ae=>decide (r.p=st)) ae.k x.o)=acc:=HE.out.symm
     rw [e1]
     exact ⟨_,_,rfl,(cz.of HO.out).lower b2.size,b2.trans (q.below.mono b2.size)⟩
theorem kN (x:aO) (st:Int) (w:World) (h:aQ w w.heap.size x) :
  Calls wH 142 #[x.val,O U st] w fun e w'=>∃ A' c',e=.returned (.tuple #[F A' (bC (ao x && aS x.t st) (aT (fun r:ae=>decide (r.k=st)) ae.p x.o)).length c',.bool (ao x && aS x.t st)])∧cz w' w.heap.size 3 1 A' (bC (ao x && aS x.t st) (aT (fun r:ae=>decide (r.k=st)) ae.p x.o)).length (bi (bC (ao x && aS x.t st) (aT (fun r:ae=>decide (r.k=st)) ae.p x.o)))∧Below w.heap.size w w':=by
 have b2:=bZ w (.cells #[F x.TA x.t.length x.tc,F x.OA x.o.length x.oc,O U x.gt,O U x.sd,O U x.ms] 40)
 have hA:=il h 40
 have hsW:(w.alloc (.cells #[F x.TA x.t.length x.tc,F x.OA x.o.length x.oc,O U x.gt,O U x.sd,O U x.ms] 40)).heap.size=w.heap.size+1:=Array.size_push _
 have zN:=jZ hsW; clear hsW
 have cG:=fun W hW=>er x W hW
 cases hg:ao x
 ·rw [hg] at cG
  clear hg
  go_enter Tryz.func142,Tryz.ntmps142
  go_wp2_with fail
  generalize (w.alloc (.cells #[F x.TA x.t.length x.tc,F x.OA x.o.length x.oc,O U x.gt,O U x.sd,O U x.ms] 40))=W at b2 hA zN ⊢
  obtain ⟨q0,yQ⟩ : ∃ q0:ap W.heap.size W,W.alloc (.cells #[] 3)=q0.val:=⟨⟨W.alloc (.cells #[] 3),jB.alloc nR _⟩,rfl⟩
  have hO:ai q0.val (w.heap.size+1) 3 []:=by rw [← yQ,← zN.out]; exact ai.new W 3 #[]
  rw [yQ]
  clear yQ
  refine (cG _ (hA.r.at q0)).mono ?_
  rintro e w1 ⟨rfl,wN⟩
  obtain ⟨q1,rfl⟩ : ∃ q1:ap W.heap.size W,w1=q1.val:=⟨q0.go nR wN,rfl⟩
  go_wp2
  go_ret2
  show ∃ A' c',_=Ending.returned (.tuple #[F A' ([] : List Int).length c',.bool false])∧cz _ _ _ 1 A' ([] : List Int).length (bi [])∧_
  exact ⟨_,_,rfl,⟨rfl,sP,.inr ⟨w.heap.size+1,[],rfl,Nat.le_succ _,by simpa using (hO.below (wN) hO.lt)⟩⟩,b2.trans (q1.below.mono b2.size)⟩
 ·rw [hg] at cG
  have G:=br.1 hg
  have ol:=G.ol
  have hl:=h.os.big
  clear hg G
  obtain ⟨X,hX⟩ : ∃ X,ay x.t st=X:=⟨_,rfl⟩
  have HX:Hid (Value.int .i64 (ay x.t st)=O U X):=by rw [hX]; rfl
  obtain ⟨v2,xw⟩ : ∃ v,aS x.t st=v:=⟨_,rfl⟩
  have Bh:decide (0≤X)=v2:=by rw [← hX,← xw]; exact dU _ _
  rw [xw]
  clear hX xw
  cases v2
  ·go_enter Tryz.func142,Tryz.ntmps142
   have JP:X < 0:=by have:=of_decide_eq_false Bh; omega
   clear Bh
   go_wp2_with fail
   generalize (w.alloc (.cells #[F x.TA x.t.length x.tc,F x.OA x.o.length x.oc,O U x.gt,O U x.sd,O U x.ms] 40))=W at b2 hA zN ⊢
   obtain ⟨q0,yQ⟩ : ∃ q0:ap W.heap.size W,W.alloc (.cells #[] 3)=q0.val:=⟨⟨W.alloc (.cells #[] 3),jB.alloc nR _⟩,rfl⟩
   have hO:ai q0.val (w.heap.size+1) 3 []:=by rw [← yQ,← zN.out]; exact ai.new W 3 #[]
   rw [yQ]
   clear yQ
   obtain ⟨p0,p1,p2,p3,p4⟩:=hA.s
   refine (cG _ (hA.r.at q0)).mono ?_
   rintro e w1 ⟨rfl,wN⟩
   obtain ⟨q1,rfl⟩ : ∃ q1:ap W.heap.size W,w1=q1.val:=⟨q0.go nR wN,rfl⟩
   go_wp2_with fail
   refine (bO x st _ (hA.r.at q1)).mono ?_
   rw [HX.out]
   rintro e w2 ⟨rfl,wM⟩
   have Di:=av wN wM
   obtain ⟨q2,rfl⟩ : ∃ q2:ap W.heap.size W,w2=q2.val:=⟨q1.go nR wM,rfl⟩
   go_wp2
   go_ret2
   show ∃ A' c',_=Ending.returned (.tuple #[F A' ([] : List Int).length c',.bool false])∧cz _ _ _ 1 A' ([] : List Int).length (bi [])∧_
   exact ⟨_,_,rfl,⟨rfl,sP,.inr ⟨w.heap.size+1,[],rfl,Nat.le_succ _,by simpa using (hO.below (Di) hO.lt)⟩⟩,b2.trans (q2.below.mono b2.size)⟩
  ·have HF:Hid (aT (fun r:ae=>decide (r.k=st)) ae.p (x.o.drop 0)=aT (fun r:ae=>decide (r.k=st)) ae.p x.o):=rfl
   have JP:0≤X:=of_decide_eq_true Bh
   clear Bh
   go_enter Tryz.func142,Tryz.ntmps142
   go_wp2_with fail
   generalize (w.alloc (.cells #[F x.TA x.t.length x.tc,F x.OA x.o.length x.oc,O U x.gt,O U x.sd,O U x.ms] 40))=W at b2 hA zN ⊢
   obtain ⟨q0,yQ⟩ : ∃ q0:ap W.heap.size W,W.alloc (.cells #[] 3)=q0.val:=⟨⟨W.alloc (.cells #[] 3),jB.alloc nR _⟩,rfl⟩
   have hO:ai q0.val (w.heap.size+1) 3 []:=by rw [← yQ,← zN.out]; exact ai.new W 3 #[]
   rw [yQ]
   clear yQ
   obtain ⟨p0,p1,p2,p3,p4⟩:=hA.s
   have xS:=hA.r.os.el
   refine (cG _ (hA.r.at q0)).mono ?_
   rintro e w1 ⟨rfl,wN⟩
   obtain ⟨q1,rfl⟩ : ∃ q1:ap W.heap.size W,w1=q1.val:=⟨q0.go nR wN,rfl⟩
   go_wp2_with fail
   refine (bO x st _ (hA.r.at q1)).mono ?_
   rw [HX.out]
   rintro e w2 ⟨rfl,wM⟩
   have Di:=av wN wM
   obtain ⟨q2,rfl⟩ : ∃ q2:ap W.heap.size W,w2=q2.val:=⟨q1.go nR wM,rfl⟩
   obtain ⟨OA,yf⟩ : ∃ A,x.OA=A:=⟨_,rfl⟩
   rw [yf] at xS
   simp only [yf] at p1
   clear yf
   go_wp2
   go_loopw [6,7] (fun out i wr=>∃ (k:Nat) (acc:List Int),k≤x.o.length∧i=O U k∧acc.length≤k∧Hid (wr.ownsRow W.heap.size 3 1 out acc.length (bi acc))∧(Below W.heap.size W wr)∧Hid (acc++aT (fun r:ae=>decide (r.k=st)) ae.p (x.o.drop k)=aT (fun r:ae=>decide (r.k=st)) ae.p x.o)) (fun _ i _=>x.o.length - (intOf i).toNat)
   case atStart=>exact ⟨0,[],Nat.zero_le _,rfl,Nat.zero_le _,((hO.below (Di) hO.lt).own (B:=W.heap.size) (k:=1) (n:=0) (by rw [zN.out]; exact Nat.le_refl _) rfl (by unfold maxLen; omega)),q2.below,HF⟩
   case round =>
    obtain ⟨k,acc,hk,rfl,Am,HO,yM,HR⟩:=hrel
    obtain ⟨q,rfl⟩ : ∃ q:ap W.heap.size W,wr=q.val:=⟨⟨wr,yM⟩,rfl⟩
    by_cases wQ:k < x.o.length
    ·obtain ⟨b,off,rfl,hb,hcell⟩:=xS oM
     obtain ⟨e0,e1,e2⟩:=hcell k wQ
     have hy:=fun hv=>kH (sel:=(fun r:ae=>decide (r.k=st))) (get:=ae.p) wQ hv
     have hn:=fun hv=>lP (sel:=(fun r:ae=>decide (r.k=st))) (get:=ae.p) wQ hv
     obtain ⟨r,xy⟩ : ∃ r,r=x.o[k]:=⟨_,rfl⟩
     rw [← xy] at e0 e1 e2 hy hn
     clear xy hcell xS
     by_cases hz:r.k=st
     ·have hv:(r.k == st)=true:=by simp [hz]
      have HE:Hid ((acc++[r.p])++aT (fun r:ae=>decide (r.k=st)) ae.p (x.o.drop (k+1))=aT (fun r:ae=>decide (r.k=st)) ae.p x.o):=by
       have h1:=HR.out; rw [hy (jD hz)] at h1; unfold Hid; rw [List.append_assoc]; exact h1
      clear hy hn hz HR
      go_wp2_with (at_builtin; refine cF (w0:=q.val) rfl _ _ 100 rfl 3 (O U 0) 1 8 Tryz.underlying100 iO rfl (by decide) (by omega) W.heap.size _ _ _ rfl HO #[O U r.p] 1 _ rfl (by first | rfl | exact Array.size_push _) rfl (by simp [Value.oneCell']) (by omega) q.size rfl rfl rfl rfl ?_; intro v' w3 AO hg3 wZ)
      obtain ⟨A3,c3,rfl⟩:=az AO.out
      go_wp2
      go_roundw
      case rel=>exact ⟨k+1,acc++[r.p],oM,by go_num,by simp; omega,by rw [List.length_append]; unfold bi at AO ⊢; rw [List.map_append]; exact AO,q.below.grown hg3 q.size (fun g hg=>(HO.out.lt g hg).1),HE⟩
      case measure=>simp [intOf]; omega
     ·have hv:(r.k == st)=false:=by simp [hz]
      have HE:Hid (acc++aT (fun r:ae=>decide (r.k=st)) ae.p (x.o.drop (k+1))=aT (fun r:ae=>decide (r.k=st)) ae.p x.o):=by
       have h1:=HR.out; rw [hn (jE hz)] at h1; exact h1
      clear hy hn hz HR
      go_wp2
      go_roundw
      case rel=>exact ⟨k+1,acc,oM,by go_num,oM,HO,q.below,HE⟩
      case measure=>simp [intOf]; omega
    ·have HE:Hid (acc=aT (fun r:ae=>decide (r.k=st)) ae.p x.o):=by
      have h1:=HR.out; rw [List.drop_eq_nil_of_le oM,show aT (fun r:ae=>decide (r.k=st)) ae.p [] = [] from rfl,List.append_nil] at h1; exact h1
     obtain ⟨A3,c3,rfl⟩:=az HO.out
     clear xS
     go_wp2
     go_ret2
     have e1:bC (true && true) (aT (fun r:ae=>decide (r.k=st)) ae.p x.o)=acc:=HE.out.symm
     rw [e1]
     exact ⟨_,_,rfl,(cz.of HO.out).lower b2.size,b2.trans (q.below.mono b2.size)⟩
theorem kO (x:aO) (st:Int) (w:World) (h:aQ w w.heap.size x) :
  Calls wH 155 #[x.val,O U st] w fun e w'=>∃ A' c',e=.returned (.tuple #[F A' (bC (ao x && aS x.t st) (aT (fun r:ae=>decide (r.k=st)) ae.p x.o)).length c',.bool (ao x && aS x.t st)])∧cz w' w.heap.size 3 1 A' (bC (ao x && aS x.t st) (aT (fun r:ae=>decide (r.k=st)) ae.p x.o)).length (bi (bC (ao x && aS x.t st) (aT (fun r:ae=>decide (r.k=st)) ae.p x.o)))∧Below w.heap.size w w':=by
 have b2:=bZ w (.cells #[F x.TA x.t.length x.tc,F x.OA x.o.length x.oc,O U x.gt,O U x.sd,O U x.ms] 40)
 have hA:=il h 40
 have hsW:(w.alloc (.cells #[F x.TA x.t.length x.tc,F x.OA x.o.length x.oc,O U x.gt,O U x.sd,O U x.ms] 40)).heap.size=w.heap.size+1:=Array.size_push _
 have zN:=jZ hsW; clear hsW
 have cG:=fun W hW=>bc x w.heap.size W hW
 cases hg:ao x
 ·rw [hg] at cG
  clear hg
  go_enter Tryz.func155,Tryz.ntmps155
  go_wp2_with fail
  generalize (w.alloc (.cells #[F x.TA x.t.length x.tc,F x.OA x.o.length x.oc,O U x.gt,O U x.sd,O U x.ms] 40))=W at b2 hA zN ⊢
  refine (aY (cG _ hA)).mono ?_
  rintro e w1 ⟨rfl,q1,rfl⟩
  go_wp2
  go_ret2
  show ∃ A' c',_=Ending.returned (.tuple #[F A' ([] : List Int).length c',.bool false])∧cz _ _ _ 1 A' ([] : List Int).length (bi [])∧_
  exact ⟨_,_,rfl,⟨rfl,sP,.inl ⟨rfl,rfl⟩⟩,b2.trans (q1.below.mono b2.size)⟩
 ·rw [hg] at cG
  have G:=br.1 hg
  have ol:=G.ol
  have hl:=h.os.big
  clear hg G
  obtain ⟨X,hX⟩ : ∃ X,ay x.t st=X:=⟨_,rfl⟩
  have HX:Hid (Value.int .i64 (ay x.t st)=O U X):=by rw [hX]; rfl
  obtain ⟨v2,xw⟩ : ∃ v,aS x.t st=v:=⟨_,rfl⟩
  have Bh:decide (0≤X)=v2:=by rw [← hX,← xw]; exact dU _ _
  rw [xw]
  clear hX xw
  cases v2
  ·go_enter Tryz.func155,Tryz.ntmps155
   have JP:X < 0:=by have:=of_decide_eq_false Bh; omega
   clear Bh
   go_wp2_with fail
   generalize (w.alloc (.cells #[F x.TA x.t.length x.tc,F x.OA x.o.length x.oc,O U x.gt,O U x.sd,O U x.ms] 40))=W at b2 hA zN ⊢
   obtain ⟨p0,p1,p2,p3,p4⟩:=hA.s
   refine (aY (cG _ hA)).mono ?_
   rintro e w1 ⟨rfl,q1,rfl⟩
   go_wp2_with fail
   refine (aU HX nR (bp x w.heap.size st _ (hA.at q1))).mono ?_
   rintro e w2 ⟨rfl,q2,rfl⟩
   go_wp2
   go_ret2
   show ∃ A' c',_=Ending.returned (.tuple #[F A' ([] : List Int).length c',.bool false])∧cz _ _ _ 1 A' ([] : List Int).length (bi [])∧_
   exact ⟨_,_,rfl,⟨rfl,sP,.inl ⟨rfl,rfl⟩⟩,b2.trans (q2.below.mono b2.size)⟩
  ·have HF:Hid (aT (fun r:ae=>decide (r.k=st)) ae.p (x.o.drop 0)=aT (fun r:ae=>decide (r.k=st)) ae.p x.o):=rfl
   have JP:0≤X:=of_decide_eq_true Bh
   clear Bh
   go_enter Tryz.func155,Tryz.ntmps155
   go_wp2_with fail
   generalize (w.alloc (.cells #[F x.TA x.t.length x.tc,F x.OA x.o.length x.oc,O U x.gt,O U x.sd,O U x.ms] 40))=W at b2 hA zN ⊢
   obtain ⟨p0,p1,p2,p3,p4⟩:=hA.s
   have xS:=hA.r.os.el
   refine (aY (cG _ hA)).mono ?_
   rintro e w1 ⟨rfl,q1,rfl⟩
   go_wp2_with fail
   refine (aU HX nR (bp x w.heap.size st _ (hA.at q1))).mono ?_
   rintro e w2 ⟨rfl,q2,rfl⟩
   obtain ⟨OA,yf⟩ : ∃ A,x.OA=A:=⟨_,rfl⟩
   rw [yf] at xS
   simp only [yf] at p1
   clear yf
   go_wp2
   go_loopw [6,19] (fun out i wr=>∃ (k:Nat) (acc:List Int),k≤x.o.length∧i=O U k∧acc.length≤k∧Hid (wr.ownsRow W.heap.size 3 1 out acc.length (bi acc))∧(Below W.heap.size W wr)∧Hid (acc++aT (fun r:ae=>decide (r.k=st)) ae.p (x.o.drop k)=aT (fun r:ae=>decide (r.k=st)) ae.p x.o)) (fun _ i _=>x.o.length - (intOf i).toNat)
   case atStart=>exact ⟨0,[],Nat.zero_le _,rfl,Nat.zero_le _,(World.ownsRow_nil _ _ _ _),q2.below,HF⟩
   case round =>
    obtain ⟨k,acc,hk,rfl,Am,HO,yM,HR⟩:=hrel
    obtain ⟨q,rfl⟩ : ∃ q:ap W.heap.size W,wr=q.val:=⟨⟨wr,yM⟩,rfl⟩
    by_cases wQ:k < x.o.length
    ·obtain ⟨b,off,rfl,hb,hcell⟩:=xS oM
     obtain ⟨e0,e1,e2⟩:=hcell k wQ
     have hy:=fun hv=>kH (sel:=(fun r:ae=>decide (r.k=st))) (get:=ae.p) wQ hv
     have hn:=fun hv=>lP (sel:=(fun r:ae=>decide (r.k=st))) (get:=ae.p) wQ hv
     obtain ⟨r,xy⟩ : ∃ r,r=x.o[k]:=⟨_,rfl⟩
     rw [← xy] at e0 e1 e2 hy hn
     clear xy hcell xS
     by_cases hz:r.k=st
     ·have hv:(r.k == st)=true:=by simp [hz]
      have HE:Hid ((acc++[r.p])++aT (fun r:ae=>decide (r.k=st)) ae.p (x.o.drop (k+1))=aT (fun r:ae=>decide (r.k=st)) ae.p x.o):=by
       have h1:=HR.out; rw [hy (jD hz)] at h1; unfold Hid; rw [List.append_assoc]; exact h1
      clear hy hn hz HR
      have GQ:=jZ (HO.out.alloc (.cells #[O U r.k,O U r.p,O U r.c] 147))
      have hbV:=q.below.alloc q.size (.cells #[O U r.k,O U r.p,O U r.c] 147)
      have hsV:=hbV.size
      clear HO
      go_wp2_with (at_builtin; refine cF (w0:=q.val.alloc (.cells #[O U r.k,O U r.p,O U r.c] 147)) rfl _ _ 100 rfl 3 (O U 0) 1 8 Tryz.underlying100 iO rfl (by decide) (by omega) W.heap.size _ _ _ rfl GQ #[O U r.p] 1 _ rfl (by first | rfl | exact Array.size_push _) rfl (by simp [Value.oneCell']) (by omega) hsV rfl rfl rfl rfl ?_; intro v' w3 AO hg3 wZ)
      obtain ⟨A3,c3,rfl⟩:=az AO.out
      go_wp2
      go_roundw
      case rel=>exact ⟨k+1,acc++[r.p],oM,by go_num,by simp; omega,by rw [List.length_append]; unfold bi at AO ⊢; rw [List.map_append]; exact AO,hbV.grown hg3 hbV.size (fun g hg=>(GQ.out.lt g hg).1),HE⟩
      case measure=>simp [intOf]; omega
     ·have hv:(r.k == st)=false:=by simp [hz]
      have HE:Hid (acc++aT (fun r:ae=>decide (r.k=st)) ae.p (x.o.drop (k+1))=aT (fun r:ae=>decide (r.k=st)) ae.p x.o):=by
       have h1:=HR.out; rw [hn (jE hz)] at h1; exact h1
      clear hy hn hz HR
      go_wp2
      go_roundw
      case rel=>exact ⟨k+1,acc,oM,by go_num,oM,jZ (HO.out.alloc _),q.below.alloc q.size _,HE⟩
      case measure=>simp [intOf]; omega
    ·have HE:Hid (acc=aT (fun r:ae=>decide (r.k=st)) ae.p x.o):=by
      have h1:=HR.out; rw [List.drop_eq_nil_of_le oM,show aT (fun r:ae=>decide (r.k=st)) ae.p [] = [] from rfl,List.append_nil] at h1; exact h1
     obtain ⟨A3,c3,rfl⟩:=az HO.out
     clear xS
     go_wp2
     go_ret2
     have e1:bC (true && true) (aT (fun r:ae=>decide (r.k=st)) ae.p x.o)=acc:=HE.out.symm
     rw [e1]
     exact ⟨_,_,rfl,(cz.of HO.out).lower b2.size,b2.trans (q.below.mono b2.size)⟩
def jR (l:List ae) (p:Int):Int:=aW (fun o=>decide (o.p=p)) l
def dM (l:List ae):List ae→Int × Int→Int × Int
 | [],b=>b
 | r :: rest,b=>dM l rest (if b.2 < jR l r.p ∨ jR l r.p=b.2∧r.p < b.1 then (r.p,jR l r.p) else b)
def iw (l:List ae):Nat→Int→Int × Int→Int × Int
 | 0,_,b=>b
 | n+1,p,b=>iw l n (p+1) (if b.2 < jR l p then (p,jR l p) else b)
theorem ix (f:ae→Bool):∀ (l:List ae) (s:Int),(∀ r ∈ l,1≤r.c)→s≤bJ f s l
 | [],s,_=>Int.le_refl _
 | r :: l,s,h=>by
  have h1:=h r (List.mem_cons_self ..)
  have:=ix f l (if f r then s+r.c else s) (fun x hx=>h x (List.mem_cons_of_mem _ hx))
  simp only [bJ]
  cases hf:f r <;> simp only [hf,if_true,if_false,Bool.false_eq_true] at this ⊢ <;> omega
theorem ko (f:ae→Bool):∀ (l:List ae) (s:Int),(∀ r ∈ l,1≤r.c)→(∃ r ∈ l,f r=true)→s < bJ f s l
 | [],_,_,⟨_,h,_⟩=>by cases h
 | r :: l,s,h,⟨x,hx,hf⟩=>by
  have h1:=h r (List.mem_cons_self ..)
  have hl:∀ y ∈ l,1≤y.c:=fun y hy=>h y (List.mem_cons_of_mem _ hy)
  simp only [bJ]
  cases hr:f r
  ·simp only [Bool.false_eq_true,if_false]
   rcases List.mem_cons.1 hx with rfl | hx
   ·rw [hf] at hr; cases hr
   ·exact ko f l s hl ⟨x,hx,hf⟩
  ·simp only [if_true]
   have:=ix f l (s+r.c) hl
   omega
theorem lQ (f:ae→Bool):∀ (l:List ae) (s:Int),(∀ r ∈ l,f r=false)→bJ f s l=s
 | [],_,_=>rfl
 | r :: l,s,h=>by
  simp only [bJ]
  rw [h r (List.mem_cons_self ..)]
  exact lQ f l s fun x hx=>h x (List.mem_cons_of_mem _ hx)
structure jI (l:List ae) (P:Int→Prop) (b:Int × Int):Prop where
 top:∀ p,P p→jR l p≤b.2
 is:(b=(0,0)∧∀ p,P p→jR l p≤0) ∨ (P b.1∧b.2=jR l b.1∧0 < b.2∧∀ p,P p→jR l p=b.2→b.1≤p)
theorem jI.unique {l:List ae} {P Q:Int→Prop} {a b:Int × Int} (ha:jI l P a) (hb:jI l Q b) (FM:∀ p,0 < jR l p→(P p ↔ Q p)):a=b:=by
 rcases ha.is with ⟨rfl,Ab⟩ | ⟨Bc,zT,Og,ha4⟩
 ·rcases hb.is with ⟨rfl,_⟩ | ⟨wN,wM,wZ,_⟩
  ·rfl
  ·have:=Ab b.1 ((FM b.1 oM).2 wN); omega
 ·rcases hb.is with ⟨rfl,hb0⟩ | ⟨wN,wM,wZ,wV⟩
  ·have:=hb0 a.1 ((FM a.1 oM).1 Bc); omega
  ·have h1:=ha.top b.1 ((FM b.1 oM).2 wN)
   have h2:=hb.top a.1 ((FM a.1 oM).1 Bc)
   have e2:a.2=b.2:=oM
   have h3:=ha4 b.1 ((FM b.1 oM).2 wN) oM
   have h4:=wV a.1 ((FM a.1 oM).1 Bc) oM
   have e1:a.1=b.1:=oM
   cases a; cases b; simp only at e1 e2; rw [e1,e2]
theorem jI.nil (l:List ae) {P:Int→Prop} (h:∀ p,¬ P p):jI l P (0,0):=⟨fun p hp=>absurd hp (h p),.inl ⟨rfl,fun p hp=>absurd hp (h p)⟩⟩
theorem jI.step {l:List ae} {P:Int→Prop} {b:Int × Int} (h:jI l P b) (q:Int) (hq:0 < jR l q) :
  jI l (fun p=>P p ∨ p=q) (if b.2 < jR l q ∨ jR l q=b.2∧q < b.1 then (q,jR l q) else b):=by
 split
 ·rename_i hc
  refine ⟨fun p hp=>?_,.inr ⟨.inr rfl,rfl,hq,fun p hp he=>?_⟩⟩
  ·rcases hp with hp | rfl
   ·have:=h.top p hp; simp only; omega
   ·exact Int.le_refl _
  ·simp only at he ⊢
   rcases hp with hp | rfl
   ·have h1:=h.top p hp
    rcases h.is with ⟨rfl,h0⟩ | ⟨_,_,_,h4⟩
    ·have:=h0 p hp; omega
    ·rcases hc with hc | ⟨hc,wQ⟩
     ·omega
     ·have:=h4 p hp oM; omega
   ·exact Int.le_refl _
 ·rename_i hc
  have zl:jR l q≤b.2:=oM
  have FE:jR l q=b.2→b.1≤q:=fun e=>by omega
  refine ⟨fun p hp=>?_,.inr ?_⟩
  ·rcases hp with hp | rfl
   ·exact h.top p hp
   ·exact zl
  ·rcases h.is with ⟨rfl,_⟩ | ⟨h1,h2,h3,h4⟩
   ·simp only at zl; omega
   ·exact ⟨.inl h1,h2,h3,fun p hp he=>by
     rcases hp with hp | rfl
     ·exact h4 p hp he
     ·exact FE he⟩
theorem jI.next {l:List ae} {lo q:Int} {b:Int × Int} (h:jI l (fun p=>lo≤p∧p < q) b) (Ay:lo≤q) (h0:0≤jR l q) :
  jI l (fun p=>lo≤p∧p < q+1) (if b.2 < jR l q then (q,jR l q) else b):=by
 have hb0:0≤b.2:=by
  rcases h.is with ⟨rfl,_⟩ | ⟨_,_,h3,_⟩
  ·exact Int.le_refl _
  ·omega
 split
 ·rename_i hc
  refine ⟨fun p hp=>?_,.inr ⟨⟨Ay,by simp only; omega⟩,rfl,by simp only; omega,fun p hp he=>?_⟩⟩
  ·rcases Int.lt_or_le p q with wQ | xq
   ·have:=h.top p ⟨hp.1,wQ⟩; simp only; omega
   ·obtain rfl:p=q:=oM
    exact Int.le_refl _
  ·simp only at he ⊢
   rcases Int.lt_or_le p q with wQ | xq
   ·have:=h.top p ⟨hp.1,wQ⟩; omega
   ·exact xq
 ·rename_i hc
  refine ⟨fun p hp=>?_, ?_⟩
  ·rcases Int.lt_or_le p q with wQ | xq
   ·exact h.top p ⟨hp.1,wQ⟩
   ·obtain rfl:p=q:=oM
    omega
  ·rcases h.is with ⟨rfl,hz⟩ | ⟨h1,h2,h3,h4⟩
   ·refine .inl ⟨rfl,fun p hp=>?_⟩
    rcases Int.lt_or_le p q with wQ | xq
    ·exact hz p ⟨hp.1,wQ⟩
    ·obtain rfl:p=q:=oM
     simp only at hc; omega
   ·refine .inr ⟨⟨h1.1,oM⟩,h2,h3,fun p hp he=>?_⟩
    rcases Int.lt_or_le p q with wQ | xq
    ·exact h4 p ⟨hp.1,wQ⟩ he
    ·omega
theorem kp (l:List ae) (hc:∀ r ∈ l,1≤r.c):∀ (rest:List ae) (P:Int→Prop) (b:Int × Int),(∀ r ∈ rest,r ∈ l)→jI l P b→jI l (fun p=>P p ∨ ∃ r ∈ rest,r.p=p) (dM l rest b)
 | [],P,b,_,h=>by
  have e:(fun p=>P p ∨ ∃ r ∈ ([] : List ae),r.p=p)=P:=by funext p; simp
  rw [e]; exact h
 | r :: rest,P,b,hm,h=>by
  have hr:0 < jR l r.p:=ko _ l 0 hc ⟨r,hm r (List.mem_cons_self ..),jD rfl⟩
  have:=kp l hc rest _ _ (fun x hx=>hm x (List.mem_cons_of_mem _ hx)) (h.step r.p hr)
  have e:(fun p=>P p ∨ ∃ x ∈ r :: rest,x.p=p)=(fun p=>(P p ∨ p=r.p) ∨ ∃ x ∈ rest,x.p=p):=by
   funext p
   simp only [List.mem_cons,eq_iff_iff]
   constructor
   ·rintro (h | ⟨x,(rfl | hx),rfl⟩)
    ·exact .inl (.inl h)
    ·exact .inl (.inr rfl)
    ·exact .inr ⟨x,hx,rfl⟩
   ·rintro ((h | rfl) | ⟨x,hx,rfl⟩)
    ·exact .inl h
    ·exact .inr ⟨r,.inl rfl,rfl⟩
    ·exact .inr ⟨x,.inr hx,rfl⟩
  rw [e]; exact this
theorem mZ (l:List ae) (hc:∀ r ∈ l,1≤r.c) (lo:Int):∀ (n:Nat) (q:Int) (b:Int × Int),lo≤q→jI l (fun p=>lo≤p∧p < q) b→jI l (fun p=>lo≤p∧p < q+n) (iw l n q b)
 | 0,q,b,_,h=>by simpa [iw] using h
 | n+1,q,b,hq,h=>by
  have h0:0≤jR l q:=ix _ l 0 hc
  have:=mZ l hc lo n (q+1) _ oM (h.next hq h0)
  have e:q+1+(n:Int)=q+((n+1:Nat):Int):=oM
  rw [e] at this
  exact this
theorem ul (l:List ae) (hc:∀ r ∈ l,1≤r.c) (hp:∀ r ∈ l,1≤r.p∧r.p≤999):iw l 999 1 (0,0)=dM l l (0,0):=by
 have h1:=mZ l hc 1 999 1 (0,0) (Int.le_refl _) (jI.nil l fun p h=>by omega)
 have h2:=kp l hc l (fun _=>False) (0,0) (fun _ h=>h) (jI.nil l fun p h=>h)
 refine jI.unique h1 h2 fun p GL=>?_
 have zK:∃ r ∈ l,r.p=p:=by
  rcases Classical.em (∃ r ∈ l,r.p=p) with h | h
  ·exact h
  ·have:jR l p=0:=lQ _ l 0 fun r hr=>jE fun e=>h ⟨r,hr,e⟩
   omega
 obtain ⟨r,hr,rfl⟩:=zK
 have:=hp r hr
 exact ⟨fun _=>.inr ⟨r,hr,rfl⟩,fun _=>⟨this.1,oM⟩⟩
def dn (x:aO):Bool:=ao x && decide (0 < x.o.length)
def dN (x:aO):Int:=if dn x then (dM x.o x.o (0,0)).1 else 0
theorem o6 {l m:List ae} {k:Nat} (h:k < m.length) (b:Int × Int):dM l (m.drop k) b=dM l (m.drop (k+1)) (if b.2 < jR l m[k].p ∨ jR l m[k].p=b.2∧m[k].p < b.1 then (m[k].p,jR l m[k].p) else b):=by
 rw [List.drop_eq_getElem_cons h]; rfl
theorem su (x:aO) (st:Int) (w:World) (h:aQ w w.heap.size x) (ol:x.o.length≤8) (ho:∀ i (hi:i < x.o.length),x.o[i].ok x.t=true) :
  Calls wH 177 #[x.val,O U st] w fun e w'=>e=.returned (O U (jR x.o st))∧Below w.heap.size w w':=by
 have HO:=jZ ho; clear ho
 have HG:Hid (bJ (fun o=>decide (o.p=st)) 0 (x.o.drop 0)=jR x.o st):=rfl
 go_enter Tryz.func177,Tryz.ntmps177
 go_wp2
 have hb0:=bZ w (.cells #[F x.TA x.t.length x.tc,F x.OA x.o.length x.oc,O U x.gt,O U x.sd,O U x.ms] 40)
 have hA:=il h 40
 generalize w.alloc (.cells #[F x.TA x.t.length x.tc,F x.OA x.o.length x.oc,O U x.gt,O U x.sd,O U x.ms] 40)=W at hb0 hA ⊢
 obtain ⟨s0,s1,s2,s3,s4⟩:=hA.s
 have xS:=hA.r.os.el
 obtain ⟨OA,yf⟩ : ∃ A,x.OA=A:=⟨_,rfl⟩
 rw [yf] at xS
 simp only [yf] at s1
 clear yf
 go_loopw [5,6] (fun s i wr=>∃ (k:Nat) (u:Int),k≤x.o.length∧i=O U k∧s=O U u∧(0≤u∧u≤9999 * (k:Int))∧(∃ q:ap W.heap.size W,wr=q.val)∧Hid (bJ (fun o=>decide (o.p=st)) u (x.o.drop k)=jR x.o st)) (fun _ i _=>x.o.length - (intOf i).toNat)
 case atStart=>exact ⟨0,0,Nat.zero_le _,rfl,rfl,oM,⟨ap.start _ _,rfl⟩,HG⟩
 case round =>
  obtain ⟨j,u,hj,rfl,rfl,⟨u0,u1⟩,⟨p,rfl⟩,HU⟩:=hrel
  by_cases CH:j < x.o.length
  ·obtain ⟨b,off,rfl,hb,hcell⟩:=xS oM
   obtain ⟨e0,e1,e2⟩:=hcell j CH
   obtain ⟨_,_,x1,x2⟩:=ae.bounds (HO.out j CH)
   have HS:=jZ (lv (f:=fun o:ae=>decide (o.p=st)) CH u)
   obtain ⟨r,xy⟩ : ∃ r,r=x.o[j]:=⟨_,rfl⟩
   rw [← xy] at e0 e1 e2 HS x1 x2
   clear xy hcell xS
   by_cases hz:r.p=st
   ·have hv:(r.p == st)=true:=by simp [hz]
    have HE:Hid (bJ (fun o=>decide (o.p=st)) (u+r.c) (x.o.drop (j+1))=jR x.o st):=by
     have h1:=HU.out; rw [HS.out,if_pos (jD hz)] at h1; exact h1
    clear hz
    go_wp2
    go_roundw
    case rel=>exact ⟨j+1,u+r.c,oM,by go_num,rfl,oM,⟨p,rfl⟩,HE⟩
    case measure=>simp [intOf]; omega
   ·have hv:(r.p == st)=false:=by simp [hz]
    have HE:Hid (bJ (fun o=>decide (o.p=st)) u (x.o.drop (j+1))=jR x.o st):=by
     have h1:=HU.out; rw [HS.out,if_neg (by rw [jE hz]; exact Bool.false_ne_true)] at h1; exact h1
    clear hz
    go_wp2
    go_roundw
    case rel=>exact ⟨j+1,u,oM,by go_num,rfl,oM,⟨p,rfl⟩,HE⟩
    case measure=>simp [intOf]; omega
  ·have BX:Hid (u=jR x.o st):=by
    have h1:=HU.out; rw [List.drop_eq_nil_of_le oM] at h1; exact h1
   clear xS
   go_wp2
   go_ret
   exact ⟨by rw [← BX.out]; rfl,hb0.trans (p.below.mono hb0.size)⟩
theorem jV (x:aO) (w:World) (h:aQ w w.heap.size x) :
  Calls wH 139 #[x.val] w fun e w'=>e=.returned (.tuple #[O U (dN x),.bool (dn x)])∧Below w.heap.size w w':=by
 have b1:=bZ w (.cells #[F x.TA x.t.length x.tc,F x.OA x.o.length x.oc,O U x.gt,O U x.sd,O U x.ms] 40)
 have hA:=il h 40
 have cG:=fun W hW=>er x W hW
 cases hg:ao x
 ·have HF:Hid (dN x=0∧dn x=false):=by unfold dN dn; rw [hg]; exact ⟨rfl,rfl⟩
  rw [hg] at cG
  clear hg
  go_enter Tryz.func139,Tryz.ntmps139
  go_wp2_with fail
  generalize w.alloc (.cells #[F x.TA x.t.length x.tc,F x.OA x.o.length x.oc,O U x.gt,O U x.sd,O U x.ms] 40)=W at b1 hA ⊢
  refine (cG _ hA.r).mono ?_
  rintro e w1 ⟨rfl,hb⟩
  go_wp2
  go_ret2
  exact ⟨by rw [HF.out.1,HF.out.2]; rfl,av b1 hb⟩
 ·have G:=br.1 hg
  have ol:=G.ol
  have cM:=fun st W hW=>su x st W hW G.ol G.oall
  have JQ:Hid (ao x=true):=hg
  rw [hg] at cG
  clear hg G
  by_cases wR:0 < x.o.length
  ·have HF:Hid (dN x=(dM x.o x.o (0,0)).1∧dn x=true):=by
    have:dn x=true:=by unfold dn; rw [JQ.out,jD wR]; rfl
    unfold dN; rw [this]; exact ⟨rfl,rfl⟩
   have wT:((x.o.length:Int) == 0)=false:=by rw [beq_eq_false_iff_ne]; omega
   have MY:Hid (dM x.o (x.o.drop 0) (0,0)=dM x.o x.o (0,0)):=rfl
   go_enter Tryz.func139,Tryz.ntmps139
   go_wp2_with fail
   generalize w.alloc (.cells #[F x.TA x.t.length x.tc,F x.OA x.o.length x.oc,O U x.gt,O U x.sd,O U x.ms] 40)=W at b1 hA ⊢
   obtain ⟨s0,s1,s2,s3,s4⟩:=hA.s
   have xS:=hA.r.os.el
   refine (aY (cG _ hA.r)).mono ?_
   rintro e w1 ⟨rfl,q1,rfl⟩
   go_wp2
   go_loopw [4,5,6] (fun bb mm i wr=>∃ (k:Nat) (b:Int × Int),k≤x.o.length∧i=O U k∧bb=O U b.1∧mm=O U b.2∧(∃ q:ap W.heap.size W,wr=q.val)∧Hid (dM x.o (x.o.drop k) b=dM x.o x.o (0,0))) (fun _ _ i _=>x.o.length - (intOf i).toNat)
   case atStart=>exact ⟨0,(0,0),Nat.zero_le _,rfl,rfl,rfl,⟨q1,rfl⟩,MY⟩
   case round =>
    obtain ⟨k,⟨b1',b2'⟩,hk,rfl,rfl,rfl,⟨q,rfl⟩,HR⟩:=hrel
    by_cases wQ:k < x.o.length
    ·obtain ⟨b,off,yf,hb,hcell⟩:=xS oM
     obtain ⟨e0,e1,e2⟩:=hcell k wQ
     have HS:=jZ (o6 (l:=x.o) wQ (b1',b2'))
     obtain ⟨r,xy⟩ : ∃ r,r=x.o[k]:=⟨_,rfl⟩
     rw [← xy] at e0 e1 e2 HS
     have zV:({ x with OA:=some ⟨b,off,none⟩ } : aO)=x:=by rw [← yf]
     have Dz:∀ p:ap W.heap.size W,aQ p.val p.val.heap.size { x with OA:=some ⟨b,off,none⟩ }:=fun p=>by rw [zV]; exact hA.r.at p
     have cM' : ∀ W',aQ W' W'.heap.size { x with OA:=some ⟨b,off,none⟩ }→Calls wH 177 #[aO.val { x with OA:=some ⟨b,off,none⟩ },O U r.p] W' fun e w'=>e=.returned (O U (jR x.o r.p))∧Below W'.heap.size W' w':=fun W' Ix=>by rw [zV] at Ix ⊢; exact cM r.p W' Ix
     simp only [yf] at s1
     clear xy hcell xS yf zV
     simp only at HS
     go_wp2_with fail
     refine (aC nR (cM' _ (Dz q))).mono ?_
     rintro e w2 ⟨rfl,q2,rfl⟩
     obtain ⟨V,hV⟩ : ∃ V,jR x.o r.p=V:=⟨_,rfl⟩
     rw [hV] at HS
     rw [hV]
     clear hV
     by_cases h1:b2' < V
     ·rw [if_pos (Or.inl h1)] at HS
      go_wp2
      go_roundw
      case rel=>exact ⟨k+1,(r.p,V),oM,by go_num,rfl,rfl,⟨q2,rfl⟩,by have h1:=HR.out; rw [HS.out] at h1; exact h1⟩
      case measure=>simp [intOf]; omega
     ·by_cases h2:V=b2'∧r.p < b1'
      ·rw [if_pos (Or.inr h2)] at HS
       obtain ⟨h3,h4⟩:=h2
       have hv:(V == b2')=true:=by simp [h3]
       have H3:=jZ h3; clear h3
       go_wp2
       go_roundw
       case rel=>exact ⟨k+1,(r.p,V),oM,by go_num,rfl,rfl,⟨q2,rfl⟩,by have h1:=HR.out; rw [HS.out] at h1; exact h1⟩
       case measure=>simp [intOf]; omega
      ·rw [if_neg (by intro h; rcases h with h | h; exact h1 h; exact h2 h)] at HS
       by_cases h3:V=b2'
       ·have h4 : ¬ r.p < b1':=fun h=>h2 ⟨h3,h⟩
        have hv:(V == b2')=true:=by simp [h3]
        clear h2 h3
        go_wp2
        go_roundw
        case rel=>exact ⟨k+1,(b1',b2'),oM,by go_num,rfl,rfl,⟨q2,rfl⟩,by have h1:=HR.out; rw [HS.out] at h1; exact h1⟩
        case measure=>simp [intOf]; omega
       ·have hv:(V == b2')=false:=by simp [h3]
        clear h2 h3
        go_wp2
        go_roundw
        case rel=>exact ⟨k+1,(b1',b2'),oM,by go_num,rfl,rfl,⟨q2,rfl⟩,by have h1:=HR.out; rw [HS.out] at h1; exact h1⟩
        case measure=>simp [intOf]; omega
    ·have HE:Hid ((b1',b2')=dM x.o x.o (0,0)):=by
      have h1:=HR.out; rw [List.drop_eq_nil_of_le oM] at h1; exact h1
     clear xS
     go_wp2
     go_ret2
     exact ⟨by rw [HF.out.1,HF.out.2,← HE.out]; rfl,b1.trans (q.below.mono b1.size)⟩
  ·have HF:Hid (dN x=0∧dn x=false):=by
    have:dn x=false:=by unfold dn; rw [jE wR,Bool.and_false]
    unfold dN; rw [this]; exact ⟨rfl,rfl⟩
   have wT:((x.o.length:Int) == 0)=true:=by rw [beq_iff_eq]; omega
   go_enter Tryz.func139,Tryz.ntmps139
   go_wp2_with fail
   generalize w.alloc (.cells #[F x.TA x.t.length x.tc,F x.OA x.o.length x.oc,O U x.gt,O U x.sd,O U x.ms] 40)=W at b1 hA ⊢
   obtain ⟨s0,s1,s2,s3,s4⟩:=hA.s
   refine (aY (cG _ hA.r)).mono ?_
   rintro e w1 ⟨rfl,q1,rfl⟩
   go_wp2
   go_ret2
   exact ⟨by rw [HF.out.1,HF.out.2]; rfl,b1.trans (q1.below.mono b1.size)⟩
theorem fR {sel:ae→Bool} {get:ae→Int} {p:Int} : ∀ {l:List ae},p ∈ aT sel get l ↔ ∃ r ∈ l,sel r=true∧get r=p
 | []=>by simp [aT]
 | r :: l=>by
  unfold aT
  have ih:=fR (sel:=sel) (get:=get) (p:=p) (l:=l)
  split
  ·rename_i h
   rw [List.mem_cons,ih]
   constructor
   ·rintro (rfl | ⟨q,h1,h2⟩)
    ·exact ⟨r,List.mem_cons_self ..,h,rfl⟩
    ·exact ⟨q,List.mem_cons_of_mem _ h1,h2⟩
   ·rintro ⟨q,h1,h2,rfl⟩
    rcases List.mem_cons.1 h1 with rfl | h1
    ·exact .inl rfl
    ·exact .inr ⟨q,h1,h2,rfl⟩
  ·rename_i h
   rw [ih]
   constructor
   ·rintro ⟨q,h1,h2⟩; exact ⟨q,List.mem_cons_of_mem _ h1,h2⟩
   ·rintro ⟨q,h1,h2,h3⟩
    rcases List.mem_cons.1 h1 with rfl | h1
    ·exact absurd h2 h
    ·exact ⟨q,h1,h2,h3⟩
theorem sw {x:aO} (G:bK x) {r:ae} (h:r ∈ x.o):r.ok x.t=true:=by
 obtain ⟨i,hi,rfl⟩:=List.getElem_of_mem h
 exact G.oall i hi
theorem vj {x:aO} (h:dn x=true) :
  (ao x && cg (dN x) 1 999)=true∧0 < (bC (ao x && cg (dN x) 1 999) (aT (fun r:ae=>decide (r.p=dN x)) ae.k x.o)).length:=by
 have h':=h
 unfold dn at h'
 rw [Bool.and_eq_true,decide_eq_true_eq] at h'
 have G:=br.1 h'.1
 have hc:∀ r ∈ x.o,1≤r.c:=fun r hr=>(ae.bounds (sw G hr)).2.2.1
 have B:=kp x.o hc x.o (fun _=>False) (0,0) (fun _ h=>h) (jI.nil _ fun _ h=>h)
 have hv:dN x=(dM x.o x.o (0,0)).1:=by unfold dN; rw [if_pos h]
 have key:∃ r ∈ x.o,r.p=dN x:=by
  rw [hv]
  rcases B.is with ⟨_,h0⟩ | ⟨h1,_⟩
  ·have hm:x.o[0]'h'.2 ∈ x.o:=List.getElem_mem _
   have h1:=h0 _ (.inr ⟨_,hm,rfl⟩)
   have h2:0 < jR x.o (x.o[0]'h'.2).p:=ko _ _ 0 hc ⟨_,hm,jD rfl⟩
   omega
  ·rcases h1 with h1 | h1
   ·exact h1.elim
   ·exact h1
 obtain ⟨r,h1,h2⟩:=key
 have hb:=(ae.bounds (sw G h1)).2.1
 rw [h2] at hb
 have e:(ao x && cg (dN x) 1 999)=true:=by rw [h'.1,bV.2 hb]; rfl
 refine ⟨e, ?_⟩
 rw [e,bC,if_pos rfl]
 exact List.length_pos_of_mem (fR.2 ⟨r,h1,jD h2,rfl⟩)
abbrev bG (k:Int):ae→Bool:=fun o=>decide (o.k=k)
def rk (c o:ByteArray):ByteArray:=c++⟨#[32,105,110,32]⟩++o++⟨#[32,111,117,116]⟩
abbrev bM (n:Int):ByteArray:=⟨(Lib.itoa n).toArray⟩
def mw (x:aO) (kd:Int):ByteArray:=rk (bM (x.t.getD (ay x.t kd).toNat default).c) (bM (aW (bG kd) x.o))
def eI (x:aO) (kd:Int):ByteArray:=if ao x && aS x.t kd then mw x kd else ⟨#[]⟩
theorem oi {α:Type} (f:α→Bool):∀ (l:List α) (k:Nat) (i:Nat),bv f k l=(i:Int)→k≤i∧∃ h:i - k < l.length,f l[i - k]=true
 | [],k,i,h=>by simp [bv] at h
 | x :: l,k,i,h=>by
  rw [bv] at h
  split at h
  ·rename_i hx
   obtain rfl:k=i:=oM
   exact ⟨Nat.le_refl _,sP,by simpa using hx⟩
  ·obtain ⟨h1,h2,h3⟩:=oi f l (k+1) i h
   refine ⟨oM,by simp; omega, ?_⟩
   have e:i - k=(i - (k+1))+1:=oM
   simp only [e,List.getElem_cons_succ]
   exact h3
theorem ig {ts:List aq} {kd:Int} {i:Nat} (h:ay ts kd=i):∃ hi:i < ts.length,ts[i].k=kd:=by
 obtain ⟨_,h2,h3⟩:=oi _ ts 0 i h
 simp only [Nat.sub_zero] at h2 h3
 exact ⟨h2,of_decide_eq_true h3⟩
theorem gF {ts:List aq} {kd:Int} (h:0≤ay ts kd):∃ i:Nat,ay ts kd=i:=⟨(ay ts kd).toNat,oM⟩
set_option maxRecDepth 100000 in
theorem m5 (x:aO) (i:Nat) (kd:Int) (w:World) (h:aQ w w.heap.size x) (G:bK x) (hi:i < x.t.length) (hk:x.t[i].k=kd) :
  Calls wH 72 #[x.val,O U i] w fun e w'=>e=.returned (wG (rk (bM x.t[i].c) (bM (aW (bG kd) x.o))))∧Below w.heap.size w w':=by
 have hb0:=bZ w (.cells #[F x.TA x.t.length x.tc,F x.OA x.o.length x.oc,O U x.gt,O U x.sd,O U x.ms] 40)
 have hS:=nI.of (x:=x) (ai.new w 40 #[F x.TA x.t.length x.tc,F x.OA x.o.length x.oc,O U x.gt,O U x.sd,O U x.ms])
 have hR:=h.up hb0 nR
 have HO:=jZ G.oall
 have ol:=G.ol
 have tl:=G.tl
 have zF:=(aq.bounds (G.tall i hi)).2
 have DB:=fK (bG kd) x.t x.o 0 G.oall
 change 0≤aW (bG kd) x.o∧aW (bG kd) x.o≤_ at DB
 have HF:Hid (bJ (bG kd) 0 (x.o.drop 0)=aW (bG kd) x.o):=rfl
 have HT:Hid (rk (bM x.t[i].c) (bM (aW (bG kd) x.o))=bM x.t[i].c++⟨#[32,105,110,32]⟩++bM (aW (bG kd) x.o)++⟨#[32,111,117,116]⟩):=rfl
 obtain ⟨tr,yj⟩ : ∃ tr,x.t[i]=tr:=⟨_,rfl⟩
 rw [yj] at hk zF HT ⊢
 go_enter Tryz.func72,Tryz.ntmps72
 go_wp2
 generalize w.alloc (.cells #[F x.TA x.t.length x.tc,F x.OA x.o.length x.oc,O U x.gt,O U x.sd,O U x.ms] 40)=W at hb0 hS hR ⊢
 obtain ⟨s0,s1,s2,s3,s4⟩:=hS
 obtain ⟨bt,ot,yO,_,zw⟩:=hR.ts.el oM
 obtain ⟨t0,t1⟩:=zw i hi
 have xS:=hR.os.el
 simp only [yO] at s0
 rw [yj] at t0 t1
 clear zw yO yj
 subst hk
 obtain ⟨An,za⟩:=zF
 obtain ⟨GR,JR⟩:=DB
 have yC:(0:Int)≤(i:Int):=oM
 have KQ:(i:Int) < (x.t.length:Int):=oM
 go_loopw [5,6] (fun s k wr=>∃ (j:Nat) (u:Int),j≤x.o.length∧k=O U j∧s=O U u∧(0≤u∧u≤9999 * (j:Int))∧(∃ q:ap W.heap.size W,wr=q.val)∧Hid (bJ (bG tr.k) u (x.o.drop j)=aW (bG tr.k) x.o)) (fun _ k _=>x.o.length - (intOf k).toNat)
 case atStart=>exact ⟨0,0,Nat.zero_le _,rfl,rfl,oM,⟨ap.start _ _,rfl⟩,HF⟩
 case round =>
  obtain ⟨j,u,hj,rfl,rfl,⟨u0,u1⟩,⟨p,rfl⟩,HU⟩:=hrel
  by_cases CH:j < x.o.length
  ·obtain ⟨b,off,hA,hb,hcell⟩:=xS oM
   obtain ⟨e0,e1,e2⟩:=hcell j CH
   obtain ⟨_,_,x1,x2⟩:=ae.bounds (HO.out j CH)
   have HS:Hid (bJ (bG tr.k) u (x.o.drop j)=bJ (bG tr.k) (if bG tr.k x.o[j] then u+x.o[j].c else u) (x.o.drop (j+1))):=lv (f:=bG tr.k) CH u
   obtain ⟨r,xy⟩ : ∃ r,r=x.o[j]:=⟨_,rfl⟩
   rw [← xy] at e0 e1 e2 HS x1 x2
   simp only [hA] at s1
   clear xy hcell xS hA
   by_cases hz:r.k=tr.k
   ·have hv:(r.k == tr.k)=true:=by simp [hz]
    have HE:Hid (bJ (bG tr.k) (u+r.c) (x.o.drop (j+1))=aW (bG tr.k) x.o):=by
     have h1:=HU.out; rw [HS.out,show bG tr.k r=true from jD hz,if_pos rfl] at h1; exact h1
    clear hz HS
    go_wp2
    refine aX _ kZ kZ ?_
    repeat (any_goals (first | go_big_quiet_step ((fail)) | (refine wpQuiet_step (fun K hK=>?_); go_simp; split <;> (refine hK _ ?_; clear hK K))))
    all_goals (refine wpQuiet_nil ?_; rintro _ ⟨q1,rfl⟩)
    all_goals go_wp2
    go_roundw
    case rel=>exact ⟨j+1,u+r.c,oM,by go_num,rfl,oM,⟨q1,rfl⟩,HE⟩
    case measure=>simp [intOf]; omega
   ·have hv:(r.k == tr.k)=false:=by simp [hz]
    have HE:Hid (bJ (bG tr.k) u (x.o.drop (j+1))=aW (bG tr.k) x.o):=by
     have h1:=HU.out; rw [HS.out,show bG tr.k r=false from jE hz,if_neg sP] at h1; exact h1
    clear hz HS
    go_wp2
    refine aX _ kZ kZ ?_
    repeat (any_goals (first | go_big_quiet_step ((fail)) | (refine wpQuiet_step (fun K hK=>?_); go_simp; split <;> (refine hK _ ?_; clear hK K))))
    all_goals (refine wpQuiet_nil ?_; rintro _ ⟨q1,rfl⟩)
    all_goals go_wp2
    go_roundw
    case rel=>exact ⟨j+1,u,oM,by go_num,rfl,oM,⟨q1,rfl⟩,HE⟩
    case measure=>simp [intOf]; omega
  ·have BX:Hid (u=aW (bG tr.k) x.o):=by
    have h1:=HU.out; rw [List.drop_eq_nil_of_le oM] at h1; exact h1
   have z1:=bD An (by omega:tr.c≤1000000000)
   have z2:=bD u0 (by omega:u≤1000000000)
   obtain ⟨SA,Iy⟩ : ∃ SA,bM tr.c=SA:=⟨_,rfl⟩
   obtain ⟨SB,Iz⟩ : ∃ SB,bM u=SB:=⟨_,rfl⟩
   have cA:∀ W,Calls wH 71 #[O U tr.c] W fun e w'=>e=.returned (wG SA)∧Below W.heap.size W w':=fun W=>by rw [← Iy]; exact bP tr.c W An oM
   have cB:∀ W,Calls wH 71 #[O U u] W fun e w'=>e=.returned (wG SB)∧Below W.heap.size W w':=fun W=>by rw [← Iz]; exact bP u W u0 oM
   have z1' : SA.size≤100:=by rw [← Iy]; exact z1
   have z2' : SB.size≤100:=by rw [← Iz]; exact z2
   have HA:=jZ Iy
   have HB:=jZ Iz
   clear xS Iy Iz z1 z2
   go_wp2_with fail
   refine (cA _).mono ?_
   rintro e w1 ⟨rfl,wN⟩
   go_wp2_with fail
   refine (cB _).mono ?_
   rintro e w2 ⟨rfl,wM⟩
   go_wp2
   go_ret
   exact ⟨by rw [HT.out,← BX.out,HA.out,HB.out]; rfl,av (av (av hb0 p.below) wN) wM⟩
theorem lR {x:aO} {kd:Int} (h:(ao x && aS x.t kd)=false):eI x kd=⟨#[]⟩:=by unfold eI; rw [h]; rfl
theorem kI {x:aO} {kd:Int} {i:Nat} (hg:ao x=true) (hI:ay x.t kd=i) (hi:i < x.t.length):(ao x && aS x.t kd)=true∧eI x kd=rk (bM x.t[i].c) (bM (aW (bG kd) x.o)):=by
 have h1:aS x.t kd=true:=by rw [← dU,hI]; simp
 refine ⟨by rw [hg,h1]; rfl, ?_⟩
 unfold eI mw
 rw [hg,h1,hI,Int.toNat_natCast,List.getD_eq_getElem?_getD,List.getElem?_eq_getElem hi]; rfl
theorem jJ {ts:List aq} {kd:Int} (h : ¬ 0≤ay ts kd):aS ts kd=false:=by rw [← dU,jE h]
set_option maxRecDepth 100000 in
theorem mx (x:aO) (kd:Int) (w:World) (h:aQ w w.heap.size x) :
  Calls wH 178 #[x.val,O U kd] w fun e w'=>e=.returned (.tuple #[wG (eI x kd),.bool (ao x && aS x.t kd)])∧Below w.heap.size w w':=by
 have b1:=bZ w (.cells #[F x.TA x.t.length x.tc,F x.OA x.o.length x.oc,O U x.gt,O U x.sd,O U x.ms] 40)
 have hA:=il h 40
 have cG:=fun W hW=>er x W hW
 have cT:=fun W hW=>bO x kd W hW
 cases hg:ao x
 ·rw [hg] at cG
  have HN:=jZ (lR (x:=x) (kd:=kd) (by rw [hg]; rfl))
  clear hg
  rw [HN.out]
  generalize ay x.t kd=I at cT
  go_enter Tryz.func178,Tryz.ntmps178
  go_wp2_with fail
  generalize w.alloc (.cells #[F x.TA x.t.length x.tc,F x.OA x.o.length x.oc,O U x.gt,O U x.sd,O U x.ms] 40)=W at b1 hA ⊢
  obtain ⟨p0,p1,p2,p3,p4⟩:=hA.s
  refine (aY (cT _ hA.r)).mono ?_
  rintro e w1 ⟨rfl,q1,rfl⟩
  go_wp2_with fail
  refine (aC nR (cG _ (hA.r.at q1))).mono ?_
  rintro e w2 ⟨rfl,q2,rfl⟩
  go_wp2
  go_ret2
  exact ⟨rfl,b1.trans (q2.below.mono b1.size)⟩
 ·rw [hg] at cG
  have G:=br.1 hg
  by_cases hI:0≤ay x.t kd
  ·obtain ⟨i,hi⟩:=gF hI
   obtain ⟨wQ,hk⟩:=ig hi
   have HY:=jZ (kI hg hi wQ).2
   have HT:Hid (aS x.t kd=true):=by have:=(kI hg hi wQ).1; rw [hg] at this; exact this
   have cX:=fun W hW=>m5 x i kd W hW G wQ hk
   rw [hi] at cT
   clear hg hI hi
   rw [HY.out,HT.out]
   generalize rk (bM x.t[i].c) (bM (aW (bG kd) x.o))=TX at cX ⊢
   go_enter Tryz.func178,Tryz.ntmps178
   go_wp2_with fail
   generalize w.alloc (.cells #[F x.TA x.t.length x.tc,F x.OA x.o.length x.oc,O U x.gt,O U x.sd,O U x.ms] 40)=W at b1 hA ⊢
   obtain ⟨p0,p1,p2,p3,p4⟩:=hA.s
   refine (aY (cT _ hA.r)).mono ?_
   rintro e w1 ⟨rfl,q1,rfl⟩
   go_wp2_with fail
   refine (aC nR (cG _ (hA.r.at q1))).mono ?_
   rintro e w2 ⟨rfl,q2,rfl⟩
   go_wp2_with fail
   refine (aC nR (cX _ (hA.r.at q2))).mono ?_
   rintro e w3 ⟨rfl,q3,rfl⟩
   go_wp2
   go_ret2
   exact ⟨rfl,b1.trans (q3.below.mono b1.size)⟩
  ·have HH:=jZ (jJ hI)
   have HN:=jZ (lR (x:=x) (kd:=kd) (by rw [jJ hI,Bool.and_false]))
   clear hg
   rw [HN.out,HH.out]
   generalize ay x.t kd=I at cT hI
   go_enter Tryz.func178,Tryz.ntmps178
   go_wp2_with fail
   generalize w.alloc (.cells #[F x.TA x.t.length x.tc,F x.OA x.o.length x.oc,O U x.gt,O U x.sd,O U x.ms] 40)=W at b1 hA ⊢
   obtain ⟨p0,p1,p2,p3,p4⟩:=hA.s
   refine (aY (cT _ hA.r)).mono ?_
   rintro e w1 ⟨rfl,q1,rfl⟩
   go_wp2_with fail
   refine (aC nR (cG _ (hA.r.at q1))).mono ?_
   rintro e w2 ⟨rfl,q2,rfl⟩
   go_wp2
   go_ret2
   exact ⟨rfl,b1.trans (q2.below.mono b1.size)⟩
theorem sx (t:ae) (gk:Nat) (kd:Int) (w:World) (hL:ai w gk 3 [O U kd]) :
  Calls wH 125 (#[t.val]++#[.pointer (some ⟨gk,0,none⟩)]) w fun e w'=>e=.returned (.bool (bG kd t))∧Below w.heap.size w w':=by
 show Calls wH 125 #[t.val,.pointer (some ⟨gk,0,none⟩)] w _
 have b1:=bZ w (.cells #[O U t.k,O U t.p,O U t.c] 147)
 have c0:=(hL.alloc (.cells #[O U t.k,O U t.p,O U t.c] 147)).cell 0
 simp only [List.getElem?_cons_zero] at c0
 obtain ⟨v,hv⟩ : ∃ v,(t.k == kd)=v:=⟨_,rfl⟩
 have HV:Hid (bG kd t=v):=by rw [← hv]; unfold Hid; rw [Bool.eq_iff_iff]; simp [bG]
 go_enter Tryz.func125,Tryz.ntmps125
 go_wp2
 go_ret
 exact ⟨by rw [HV.out]; rfl,b1⟩
set_option maxRecDepth 100000 in
theorem gm (x:aO) (g i:Nat) (kd:Int) (w:World) (h:cw w w.heap.size g x) (G:bK x) (hI:ay x.t kd=i) (hi:i < x.t.length) (ht:hQ w) :
  Calls wH 70 #[.pointer (some ⟨g,0,none⟩),O U kd] w fun e w'=>e=.returned (wG (rk (bM x.t[i].c) (bM (aW (bG kd) x.o))))∧Below w.heap.size w w':=by
 have CJ:∀ (fn:Fn) (first cap:Array Value) (w:World),(Instr.makeFunc fn first cap).run wH w=.ok (.func fn first cap) w:=fun _ _ _ _=>rfl
 have b1:=bZ w (.cells #[O U kd] 3)
 have hL:=ai.new w 3 #[O U kd]
 have hA:=h.then b1 b1.size
 have yg:=ht.then b1
 have ol:=G.ol
 have zF:=(aq.bounds (G.tall i hi)).2
 have DB:=fK (bG kd) x.t x.o 0 G.oall
 change 0≤aW (bG kd) x.o∧aW (bG kd) x.o≤_ at DB
 have HT:Hid (rk (bM x.t[i].c) (bM (aW (bG kd) x.o))=bM x.t[i].c++⟨#[32,105,110,32]⟩++bM (aW (bG kd) x.o)++⟨#[32,111,117,116]⟩):=rfl
 rw [HT.out]
 obtain ⟨tr,yj⟩ : ∃ tr,x.t[i]=tr:=⟨_,rfl⟩
 obtain ⟨S,hS⟩ : ∃ S,aW (bG kd) x.o=S:=⟨_,rfl⟩
 rw [yj] at zF
 rw [hS] at DB
 rw [yj,hS]
 go_enter Tryz.func70,Tryz.ntmps70
 go_wp2_with fail
 generalize w.alloc (.cells #[O U kd] 3)=W at b1 hL hA yg ⊢
 have cO:=fC (bG kd) 125 #[.pointer (some ⟨w.heap.size,0,none⟩)] Tryz.call125 x g W (fun o p=>sx o w.heap.size kd p.val (hL.below p.below hL.lt)) hA ol G.oall
 rw [hS] at cO
 refine (aY cO).mono ?_
 rintro e w1 ⟨rfl,q1,rfl⟩
 have zZ:∀ q:ap W.heap.size W,q.val.cell? ⟨w.heap.size,0,none⟩=some (O U kd):=fun q=>(q.cell hL.lt).trans (hL.cell 0)
 obtain ⟨p0,p1,p2,p3,p4⟩:=hA.s
 obtain ⟨bt,ot,yO,_,zw⟩:=hA.r.ts.el oM
 obtain ⟨t0,t1⟩:=zw i hi
 simp only [yO] at p0
 have cA:=fun q:ap W.heap.size W=>bp x g kd q.val (hA.at q)
 rw [hI] at cA
 rw [yj] at t1
 obtain ⟨An,za⟩:=zF
 obtain ⟨GR,JR⟩:=DB
 have c1:=fun q:ap W.heap.size W=>cq tr.c q.val oM oM (yg.at q)
 have c2:=fun q:ap W.heap.size W=>cq S q.val oM oM (yg.at q)
 have z1:=bD An (by omega:tr.c≤1000000000)
 have z2:=bD GR (by omega:S≤1000000000)
 have HA:Hid (bM tr.c=⟨(Lib.itoa tr.c).toArray⟩):=rfl
 have HB:Hid (bM S=⟨(Lib.itoa S).toArray⟩):=rfl
 generalize (⟨(Lib.itoa tr.c).toArray⟩ : ByteArray)=SA at c1 z1 HA
 generalize (⟨(Lib.itoa S).toArray⟩ : ByteArray)=SB at c2 z2 HB
 have yC:(0:Int)≤(i:Int):=oM
 have KQ:(i:Int) < (x.t.length:Int):=oM
 clear zw yO cO hS t0 HT
 go_wp2
 refine aX _ kZ kZ ?_
 repeat (any_goals (first | go_big_quiet_step ((first | (go_at_call 116; with_reducible refine aC nR (cA _)) | (go_at_call 69; with_reducible refine aC nR (c1 _)) | (go_at_call 69; with_reducible refine aC nR (c2 _)))) | (refine wpQuiet_step (fun K hK=>?_); go_simp; split <;> (refine hK _ ?_; clear hK K))))
 all_goals (refine wpQuiet_nil ?_; rintro _ ⟨q1,rfl⟩)
 all_goals go_wp2
 go_ret
 exact ⟨by rw [HA.out,HB.out]; rfl,av b1 q1.below⟩
set_option maxRecDepth 100000 in
theorem my (x:aO) (kd:Int) (w:World) (h:aQ w w.heap.size x) (ht:hQ w) :
  Calls wH 156 #[x.val,O U kd] w fun e w'=>e=.returned (.tuple #[wG (eI x kd),.bool (ao x && aS x.t kd)])∧Below w.heap.size w w':=by
 have b1:=bZ w (.cells #[F x.TA x.t.length x.tc,F x.OA x.o.length x.oc,O U x.gt,O U x.sd,O U x.ms] 40)
 have hA:=il h 40
 have yg:=ht.then b1
 have cG:=fun W hW=>bc x w.heap.size W hW
 have cT:=fun W hW=>bp x w.heap.size kd W hW
 cases hg:ao x
 ·rw [hg] at cG
  have HN:=jZ (lR (x:=x) (kd:=kd) (by rw [hg]; rfl))
  clear hg
  rw [HN.out]
  go_enter Tryz.func156,Tryz.ntmps156
  go_wp2_with fail
  generalize w.alloc (.cells #[F x.TA x.t.length x.tc,F x.OA x.o.length x.oc,O U x.gt,O U x.sd,O U x.ms] 40)=W at b1 hA ⊢
  refine (cG _ hA).mono ?_
  rintro e w1 ⟨rfl,hb⟩
  go_wp2
  go_ret2
  exact ⟨rfl,av b1 hb⟩
 ·rw [hg] at cG
  have G:=br.1 hg
  by_cases hI:0≤ay x.t kd
  ·obtain ⟨i,hi⟩:=gF hI
   obtain ⟨wQ,hk⟩:=ig hi
   have HY:=jZ (kI hg hi wQ).2
   have HT:Hid (aS x.t kd=true):=by have:=(kI hg hi wQ).1; rw [hg] at this; exact this
   have cX:=fun W hW ht=>gm x w.heap.size i kd W hW G hi wQ ht
   rw [hi] at cT
   clear hg hI hi
   rw [HY.out,HT.out]
   generalize rk (bM x.t[i].c) (bM (aW (bG kd) x.o))=TX at cX ⊢
   go_enter Tryz.func156,Tryz.ntmps156
   go_wp2_with fail
   generalize w.alloc (.cells #[F x.TA x.t.length x.tc,F x.OA x.o.length x.oc,O U x.gt,O U x.sd,O U x.ms] 40)=W at b1 hA yg ⊢
   refine (aY (cG _ hA)).mono ?_
   rintro e w1 ⟨rfl,q1,rfl⟩
   go_wp2_with fail
   refine (aC nR (cT _ (hA.at q1))).mono ?_
   rintro e w2 ⟨rfl,q2,rfl⟩
   go_wp2_with fail
   refine (aC nR (cX _ (hA.at q2) (yg.at q2))).mono ?_
   rintro e w3 ⟨rfl,q3,rfl⟩
   go_wp2
   go_ret2
   exact ⟨rfl,b1.trans (q3.below.mono b1.size)⟩
  ·have HH:=jZ (jJ hI)
   have HN:=jZ (lR (x:=x) (kd:=kd) (by rw [jJ hI,Bool.and_false]))
   clear hg
   rw [HN.out,HH.out]
   generalize ay x.t kd=I at cT hI
   go_enter Tryz.func156,Tryz.ntmps156
   go_wp2_with fail
   generalize w.alloc (.cells #[F x.TA x.t.length x.tc,F x.OA x.o.length x.oc,O U x.gt,O U x.sd,O U x.ms] 40)=W at b1 hA ⊢
   refine (aY (cG _ hA)).mono ?_
   rintro e w1 ⟨rfl,q1,rfl⟩
   go_wp2_with fail
   refine (aC nR (cT _ (hA.at q1))).mono ?_
   rintro e w2 ⟨rfl,q2,rfl⟩
   go_wp2
   go_ret2
   exact ⟨rfl,b1.trans (q2.below.mono b1.size)⟩
end Go.Proofs.YtoeoimhemojdeaaGreatDoor
