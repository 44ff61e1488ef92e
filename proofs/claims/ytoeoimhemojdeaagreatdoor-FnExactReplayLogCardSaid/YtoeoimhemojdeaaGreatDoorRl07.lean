/- Rl07: the texts OffPick OffBusy OffBusy2 VInts TraysP Num Itoab Itoa TrayTx Bl Emp, joined into one file. -/
import Derived.Test.YtoeoimhemojdeaaGreatDoorProg
import Derived.Lib.ItoaNum
import Derived.Lib.ItoaLen
import Derived.Shelf.LaysM
import Derived.Shelf.LaysC
import Derived.Shelf.Strconv.Itoa3
import Derived.Shelf.Strconv.AtoiAll
import Derived.Shelf.Small.Wraps
import Derived.Shelf.Small.Strs
import Derived.Shelf.Strings.Search3
import Derived.Shelf.Strings.LastIndexAll
import Derived.Shelf.Strings.Prefix
import Derived.Shelf.Strings.Split
import Derived.Shelf.Slices.Turned
import Derived.WalkSmall
import Derived.Lib.AppendIntMem
import Derived.Test.YtoeoimhemojdeaaGreatDoorRl01
import Derived.Test.YtoeoimhemojdeaaGreatDoorRl02

set_option linter.unusedVariables false
open Go.Value renaming int → O, slice → F, string → sQ
open Go.IntKind renaming i64 → U

namespace Go.Proofs.YtoeoimhemojdeaaGreatDoor
open Go.RowKit
def aO (sel:ae→Bool) (get:ae→Int):List ae→List Int
 | []=>[]
 | r :: l=>if sel r then get r :: aO sel get l else aO sel get l
theorem iY {sel:ae→Bool} {get:ae→Int} {l:List ae} {k:Nat} (h:k < l.length) (hs:sel l[k]=true):aO sel get (l.drop k)=get l[k] :: aO sel get (l.drop (k+1)):=by
 rw [List.drop_eq_getElem_cons h,aO,if_pos hs]
theorem jS {sel:ae→Bool} {get:ae→Int} {l:List ae} {k:Nat} (h:k < l.length) (hs:sel l[k]=false):aO sel get (l.drop k)=aO sel get (l.drop (k+1)):=by
 rw [List.drop_eq_getElem_cons h,aO,if_neg (by rw [hs]; exact Bool.false_ne_true)]
theorem ko (sel:ae→Bool) (get:ae→Int):∀ l:List ae,(aO sel get l).length≤l.length
 | []=>Nat.le_refl _
 | r :: l=>by
  have:=ko sel get l
  unfold aO
  split <;> simp <;> omega
def bh (ok:Bool) (l:List Int):List Int:=if ok then l else []
theorem bP.lower {w:World} {B B' : Nat} {t:TypeId} {k:Nat} {A:Option Addr} {n:Nat} {cs:List Value} (h:bP w B t k A n cs) (hB:B'≤B):bP w B' t k A n cs:=by
 obtain ⟨hl,hn,h0 | ⟨g,rest,hA,hg,hh⟩⟩:=h
 ·exact ⟨hl,hn,.inl h0⟩
 ·exact ⟨hl,hn,.inr ⟨g,rest,hA,Nat.le_trans hB hg,hh⟩⟩
theorem gF:(Tryz.prog.info? 3).map (fun i=>(i.zero,i.size,i.bytes))=some (some (O U 0),1,8):=by kernel_rfl
set_option maxHeartbeats 2000000 in
theorem lm (x:aM) (st:Int) (w:World) (h:aQ w w.heap.size x) :
  Calls Tryz.prog 140 #[x.val,O U st] w fun e w'=>∃ A' c',e=.returned (.tuple #[F A' (bh (am x && bI st 1 999) (aO (fun r:ae=>decide (r.p=st)) ae.k x.o)).length c',.bool (am x && bI st 1 999)])∧bP w' w.heap.size 3 1 A' (bh (am x && bI st 1 999) (aO (fun r:ae=>decide (r.p=st)) ae.k x.o)).length (bv (bh (am x && bI st 1 999) (aO (fun r:ae=>decide (r.p=st)) ae.k x.o)))∧Below w.heap.size w w':=by
 have b2:=(Below.refl w.heap.size w).alloc (Nat.le_refl _) (.cells #[F x.TA x.t.length x.tc,F x.OA x.o.length x.oc,O U x.got,O U x.sold,O U x.missed] 40)
 have hA:=fY h 40
 have hsW:(w.alloc (.cells #[F x.TA x.t.length x.tc,F x.OA x.o.length x.oc,O U x.got,O U x.sold,O U x.missed] 40)).heap.size=w.heap.size+1:=Array.size_push _
 have HSW:=Lib.hid hsW; clear hsW
 have cG:=fun W hW=>dp x W hW
 cases hg:am x
 ·rw [hg] at cG
  clear hg
  go_enter Tryz.func140,Tryz.ntmps140
  go_wp2_with fail
  generalize (w.alloc (.cells #[F x.TA x.t.length x.tc,F x.OA x.o.length x.oc,O U x.got,O U x.sold,O U x.missed] 40))=W at b2 hA HSW ⊢
  obtain ⟨q0,hq0⟩ : ∃ q0:ao W.heap.size W,W.alloc (.cells #[] 3)=q0.val:=⟨⟨W.alloc (.cells #[] 3),(Below.refl _ _).alloc (Nat.le_refl _) _⟩,rfl⟩
  have hO:ai q0.val (w.heap.size+1) 3 []:=by rw [← hq0,← HSW.out]; exact ai.new W 3 #[]
  rw [hq0]
  clear hq0
  refine (cG _ (hA.r.at q0)).mono ?_
  rintro e w1 ⟨rfl,hb1⟩
  obtain ⟨q1,rfl⟩ : ∃ q1:ao W.heap.size W,w1=q1.val:=⟨q0.go (Nat.le_refl _) hb1,rfl⟩
  go_wp2
  go_ret2
  show ∃ A' c',_=Ending.returned (.tuple #[F A' ([] : List Int).length c',.bool false])∧bP _ _ _ 1 A' ([] : List Int).length (bv [])∧_
  exact ⟨_,_,rfl,⟨rfl,by simp,.inr ⟨w.heap.size+1,[],rfl,Nat.le_succ _,by simpa using (hO.below (hb1) hO.lt)⟩⟩,b2.trans (q1.below.mono b2.size)⟩
 ·rw [hg] at cG
  have G:=bm.1 hg
  have ol:=G.ol
  have hl:=h.os.big
  clear hg G
  obtain ⟨v2,hv2⟩ : ∃ v,bI st 1 999=v:=⟨_,rfl⟩
  have H2:=Lib.hid hv2
  rw [hv2]
  clear hv2
  cases v2
  ·go_enter Tryz.func140,Tryz.ntmps140
   go_wp2_with fail
   generalize (w.alloc (.cells #[F x.TA x.t.length x.tc,F x.OA x.o.length x.oc,O U x.got,O U x.sold,O U x.missed] 40))=W at b2 hA HSW ⊢
   obtain ⟨q0,hq0⟩ : ∃ q0:ao W.heap.size W,W.alloc (.cells #[] 3)=q0.val:=⟨⟨W.alloc (.cells #[] 3),(Below.refl _ _).alloc (Nat.le_refl _) _⟩,rfl⟩
   have hO:ai q0.val (w.heap.size+1) 3 []:=by rw [← hq0,← HSW.out]; exact ai.new W 3 #[]
   rw [hq0]
   clear hq0
   obtain ⟨p0,p1,p2,p3,p4⟩:=hA.s
   refine (cG _ (hA.r.at q0)).mono ?_
   rintro e w1 ⟨rfl,hb1⟩
   obtain ⟨q1,rfl⟩ : ∃ q1:ao W.heap.size W,w1=q1.val:=⟨q0.go (Nat.le_refl _) hb1,rfl⟩
   go_wp2_with fail
   refine ((aE st 1 999 _)).mono ?_
   rw [H2.out]
   rintro e w2 ⟨rfl,rfl⟩
   go_wp2
   go_ret2
   show ∃ A' c',_=Ending.returned (.tuple #[F A' ([] : List Int).length c',.bool false])∧bP _ _ _ 1 A' ([] : List Int).length (bv [])∧_
   exact ⟨_,_,rfl,⟨rfl,by simp,.inr ⟨w.heap.size+1,[],rfl,Nat.le_succ _,by simpa using (hO.below (hb1) hO.lt)⟩⟩,b2.trans (q1.below.mono b2.size)⟩
  ·have HF:Hid (aO (fun r:ae=>decide (r.p=st)) ae.k (x.o.drop 0)=aO (fun r:ae=>decide (r.p=st)) ae.k x.o):=rfl
   go_enter Tryz.func140,Tryz.ntmps140
   go_wp2_with fail
   generalize (w.alloc (.cells #[F x.TA x.t.length x.tc,F x.OA x.o.length x.oc,O U x.got,O U x.sold,O U x.missed] 40))=W at b2 hA HSW ⊢
   obtain ⟨q0,hq0⟩ : ∃ q0:ao W.heap.size W,W.alloc (.cells #[] 3)=q0.val:=⟨⟨W.alloc (.cells #[] 3),(Below.refl _ _).alloc (Nat.le_refl _) _⟩,rfl⟩
   have hO:ai q0.val (w.heap.size+1) 3 []:=by rw [← hq0,← HSW.out]; exact ai.new W 3 #[]
   rw [hq0]
   clear hq0
   obtain ⟨p0,p1,p2,p3,p4⟩:=hA.s
   have hro:=hA.r.os.el
   refine (cG _ (hA.r.at q0)).mono ?_
   rintro e w1 ⟨rfl,hb1⟩
   obtain ⟨q1,rfl⟩ : ∃ q1:ao W.heap.size W,w1=q1.val:=⟨q0.go (Nat.le_refl _) hb1,rfl⟩
   go_wp2_with fail
   refine ((aE st 1 999 _)).mono ?_
   rw [H2.out]
   rintro e w2 ⟨rfl,rfl⟩
   obtain ⟨OA,hOA⟩ : ∃ A,x.OA=A:=⟨_,rfl⟩
   rw [hOA] at hro
   simp only [hOA] at p1
   clear hOA
   go_wp2
   go_loopw [6,7] (fun out i wr=>∃ (k:Nat) (acc:List Int),k≤x.o.length∧i=O U k∧acc.length≤k∧Hid (wr.ownsRow W.heap.size 3 1 out acc.length (bv acc))∧(Below W.heap.size W wr)∧Hid (acc++aO (fun r:ae=>decide (r.p=st)) ae.k (x.o.drop k)=aO (fun r:ae=>decide (r.p=st)) ae.k x.o)) (fun _ i _=>x.o.length - (intOf i).toNat)
   case atStart=>exact ⟨0,[],Nat.zero_le _,rfl,Nat.zero_le _,((hO.below (hb1) hO.lt).own (B:=W.heap.size) (k:=1) (n:=0) (by rw [HSW.out]; exact Nat.le_refl _) rfl (by unfold maxLen; omega)),q1.below,HF⟩
   case round =>
    obtain ⟨k,acc,hk,rfl,hacc,HO,hbr,HR⟩:=hrel
    obtain ⟨q,rfl⟩ : ∃ q:ao W.heap.size W,wr=q.val:=⟨⟨wr,hbr⟩,rfl⟩
    by_cases hlt:k < x.o.length
    ·obtain ⟨b,off,rfl,hb,hcell⟩:=hro (by omega)
     obtain ⟨e0,e1,e2⟩:=hcell k hlt
     have hy:=fun hv=>iY (sel:=(fun r:ae=>decide (r.p=st))) (get:=ae.k) hlt hv
     have hn:=fun hv=>jS (sel:=(fun r:ae=>decide (r.p=st))) (get:=ae.k) hlt hv
     obtain ⟨r,hre⟩ : ∃ r,r=x.o[k]:=⟨_,rfl⟩
     rw [← hre] at e0 e1 e2 hy hn
     clear hre hcell hro
     by_cases hz:r.p=st
     ·have hv:(r.p == st)=true:=by simp [hz]
      have HE:Hid ((acc++[r.k])++aO (fun r:ae=>decide (r.p=st)) ae.k (x.o.drop (k+1))=aO (fun r:ae=>decide (r.p=st)) ae.k x.o):=by
       have h1:=HR.out; rw [hy (decide_eq_true hz)] at h1; unfold Hid; rw [List.append_assoc]; exact h1
      clear hy hn hz HR
      go_wp2_with (at_builtin; refine bU (w0:=q.val) rfl _ _ 100 rfl 3 (O U 0) 1 8 Tryz.underlying100 gF rfl (by decide) (by omega) W.heap.size _ _ _ rfl HO #[O U r.k] 1 _ rfl (by first | rfl | exact Array.size_push _) rfl (by simp [Value.oneCell']) (by omega) q.size rfl rfl rfl rfl ?_; intro v' w3 HO3 hg3 hb3)
      obtain ⟨A3,c3,rfl⟩:=aw HO3.out
      go_wp2
      go_roundw
      case rel=>exact ⟨k+1,acc++[r.k],by omega,by go_num,by simp; omega,by rw [List.length_append]; unfold bv at HO3 ⊢; rw [List.map_append]; exact HO3,q.below.grown hg3 q.size (fun g hg=>(HO.out.lt g hg).1),HE⟩
      case measure=>simp [intOf]; omega
     ·have hv:(r.p == st)=false:=by simp [hz]
      have HE:Hid (acc++aO (fun r:ae=>decide (r.p=st)) ae.k (x.o.drop (k+1))=aO (fun r:ae=>decide (r.p=st)) ae.k x.o):=by
       have h1:=HR.out; rw [hn (decide_eq_false hz)] at h1; exact h1
      clear hy hn hz HR
      go_wp2
      go_roundw
      case rel=>exact ⟨k+1,acc,by omega,by go_num,by omega,HO,q.below,HE⟩
      case measure=>simp [intOf]; omega
    ·have HE:Hid (acc=aO (fun r:ae=>decide (r.p=st)) ae.k x.o):=by
      have h1:=HR.out; rw [List.drop_eq_nil_of_le (by omega),show aO (fun r:ae=>decide (r.p=st)) ae.k [] = [] from rfl,List.append_nil] at h1; exact h1
     obtain ⟨A3,c3,rfl⟩:=aw HO.out
     clear hro
     go_wp2
     go_ret2
     have e1:bh (true && true) (aO (fun r:ae=>decide (r.p=st)) ae.k x.o)=acc:=HE.out.symm
     rw [e1]
     exact ⟨_,_,rfl,(bP.of HO.out).lower b2.size,b2.trans (q.below.mono b2.size)⟩
set_option maxHeartbeats 2000000 in
theorem lp (x:aM) (st:Int) (w:World) (h:aQ w w.heap.size x) :
  Calls Tryz.prog 154 #[x.val,O U st] w fun e w'=>∃ A' c',e=.returned (.tuple #[F A' (bh (am x && bI st 1 999) (aO (fun r:ae=>decide (r.p=st)) ae.k x.o)).length c',.bool (am x && bI st 1 999)])∧bP w' w.heap.size 3 1 A' (bh (am x && bI st 1 999) (aO (fun r:ae=>decide (r.p=st)) ae.k x.o)).length (bv (bh (am x && bI st 1 999) (aO (fun r:ae=>decide (r.p=st)) ae.k x.o)))∧Below w.heap.size w w':=by
 have b2:=(Below.refl w.heap.size w).alloc (Nat.le_refl _) (.cells #[F x.TA x.t.length x.tc,F x.OA x.o.length x.oc,O U x.got,O U x.sold,O U x.missed] 40)
 have hA:=fY h 40
 have hsW:(w.alloc (.cells #[F x.TA x.t.length x.tc,F x.OA x.o.length x.oc,O U x.got,O U x.sold,O U x.missed] 40)).heap.size=w.heap.size+1:=Array.size_push _
 have HSW:=Lib.hid hsW; clear hsW
 have cG:=fun W hW=>aX x w.heap.size W hW
 cases hg:am x
 ·rw [hg] at cG
  clear hg
  go_enter Tryz.func154,Tryz.ntmps154
  go_wp2_with fail
  generalize (w.alloc (.cells #[F x.TA x.t.length x.tc,F x.OA x.o.length x.oc,O U x.got,O U x.sold,O U x.missed] 40))=W at b2 hA HSW ⊢
  refine (aU (cG _ hA)).mono ?_
  rintro e w1 ⟨rfl,q1,rfl⟩
  go_wp2
  go_ret2
  show ∃ A' c',_=Ending.returned (.tuple #[F A' ([] : List Int).length c',.bool false])∧bP _ _ _ 1 A' ([] : List Int).length (bv [])∧_
  exact ⟨_,_,rfl,⟨rfl,by simp,.inl ⟨rfl,rfl⟩⟩,b2.trans (q1.below.mono b2.size)⟩
 ·rw [hg] at cG
  have G:=bm.1 hg
  have ol:=G.ol
  have hl:=h.os.big
  clear hg G
  obtain ⟨v2,hv2⟩ : ∃ v,bI st 1 999=v:=⟨_,rfl⟩
  have H2:=Lib.hid hv2
  rw [hv2]
  clear hv2
  cases v2
  ·go_enter Tryz.func154,Tryz.ntmps154
   go_wp2_with fail
   generalize (w.alloc (.cells #[F x.TA x.t.length x.tc,F x.OA x.o.length x.oc,O U x.got,O U x.sold,O U x.missed] 40))=W at b2 hA HSW ⊢
   obtain ⟨p0,p1,p2,p3,p4⟩:=hA.s
   refine (aU (cG _ hA)).mono ?_
   rintro e w1 ⟨rfl,q1,rfl⟩
   go_wp2_with fail
   refine ((bB st _)).mono ?_
   rw [H2.out]
   rintro e w2 ⟨rfl,rfl⟩
   go_wp2
   go_ret2
   show ∃ A' c',_=Ending.returned (.tuple #[F A' ([] : List Int).length c',.bool false])∧bP _ _ _ 1 A' ([] : List Int).length (bv [])∧_
   exact ⟨_,_,rfl,⟨rfl,by simp,.inl ⟨rfl,rfl⟩⟩,b2.trans (q1.below.mono b2.size)⟩
  ·have HF:Hid (aO (fun r:ae=>decide (r.p=st)) ae.k (x.o.drop 0)=aO (fun r:ae=>decide (r.p=st)) ae.k x.o):=rfl
   go_enter Tryz.func154,Tryz.ntmps154
   go_wp2_with fail
   generalize (w.alloc (.cells #[F x.TA x.t.length x.tc,F x.OA x.o.length x.oc,O U x.got,O U x.sold,O U x.missed] 40))=W at b2 hA HSW ⊢
   obtain ⟨p0,p1,p2,p3,p4⟩:=hA.s
   have hro:=hA.r.os.el
   refine (aU (cG _ hA)).mono ?_
   rintro e w1 ⟨rfl,q1,rfl⟩
   go_wp2_with fail
   refine ((bB st _)).mono ?_
   rw [H2.out]
   rintro e w2 ⟨rfl,rfl⟩
   obtain ⟨OA,hOA⟩ : ∃ A,x.OA=A:=⟨_,rfl⟩
   rw [hOA] at hro
   simp only [hOA] at p1
   clear hOA
   go_wp2
   go_loopw [6,19] (fun out i wr=>∃ (k:Nat) (acc:List Int),k≤x.o.length∧i=O U k∧acc.length≤k∧Hid (wr.ownsRow W.heap.size 3 1 out acc.length (bv acc))∧(Below W.heap.size W wr)∧Hid (acc++aO (fun r:ae=>decide (r.p=st)) ae.k (x.o.drop k)=aO (fun r:ae=>decide (r.p=st)) ae.k x.o)) (fun _ i _=>x.o.length - (intOf i).toNat)
   case atStart=>exact ⟨0,[],Nat.zero_le _,rfl,Nat.zero_le _,(World.ownsRow_nil _ _ _ _),q1.below,HF⟩
   case round =>
    obtain ⟨k,acc,hk,rfl,hacc,HO,hbr,HR⟩:=hrel
    obtain ⟨q,rfl⟩ : ∃ q:ao W.heap.size W,wr=q.val:=⟨⟨wr,hbr⟩,rfl⟩
    by_cases hlt:k < x.o.length
    ·obtain ⟨b,off,rfl,hb,hcell⟩:=hro (by omega)
     obtain ⟨e0,e1,e2⟩:=hcell k hlt
     have hy:=fun hv=>iY (sel:=(fun r:ae=>decide (r.p=st))) (get:=ae.k) hlt hv
     have hn:=fun hv=>jS (sel:=(fun r:ae=>decide (r.p=st))) (get:=ae.k) hlt hv
     obtain ⟨r,hre⟩ : ∃ r,r=x.o[k]:=⟨_,rfl⟩
     rw [← hre] at e0 e1 e2 hy hn
     clear hre hcell hro
     by_cases hz:r.p=st
     ·have hv:(r.p == st)=true:=by simp [hz]
      have HE:Hid ((acc++[r.k])++aO (fun r:ae=>decide (r.p=st)) ae.k (x.o.drop (k+1))=aO (fun r:ae=>decide (r.p=st)) ae.k x.o):=by
       have h1:=HR.out; rw [hy (decide_eq_true hz)] at h1; unfold Hid; rw [List.append_assoc]; exact h1
      clear hy hn hz HR
      have HOW:=Lib.hid (HO.out.alloc (.cells #[O U r.k,O U r.p,O U r.c] 147))
      have hbV:=q.below.alloc q.size (.cells #[O U r.k,O U r.p,O U r.c] 147)
      have hsV:=hbV.size
      clear HO
      go_wp2_with (at_builtin; refine bU (w0:=q.val.alloc (.cells #[O U r.k,O U r.p,O U r.c] 147)) rfl _ _ 100 rfl 3 (O U 0) 1 8 Tryz.underlying100 gF rfl (by decide) (by omega) W.heap.size _ _ _ rfl HOW #[O U r.k] 1 _ rfl (by first | rfl | exact Array.size_push _) rfl (by simp [Value.oneCell']) (by omega) hsV rfl rfl rfl rfl ?_; intro v' w3 HO3 hg3 hb3)
      obtain ⟨A3,c3,rfl⟩:=aw HO3.out
      go_wp2
      go_roundw
      case rel=>exact ⟨k+1,acc++[r.k],by omega,by go_num,by simp; omega,by rw [List.length_append]; unfold bv at HO3 ⊢; rw [List.map_append]; exact HO3,hbV.grown hg3 hbV.size (fun g hg=>(HOW.out.lt g hg).1),HE⟩
      case measure=>simp [intOf]; omega
     ·have hv:(r.p == st)=false:=by simp [hz]
      have HE:Hid (acc++aO (fun r:ae=>decide (r.p=st)) ae.k (x.o.drop (k+1))=aO (fun r:ae=>decide (r.p=st)) ae.k x.o):=by
       have h1:=HR.out; rw [hn (decide_eq_false hz)] at h1; exact h1
      clear hy hn hz HR
      go_wp2
      go_roundw
      case rel=>exact ⟨k+1,acc,by omega,by go_num,by omega,Lib.hid (HO.out.alloc _),q.below.alloc q.size _,HE⟩
      case measure=>simp [intOf]; omega
    ·have HE:Hid (acc=aO (fun r:ae=>decide (r.p=st)) ae.k x.o):=by
      have h1:=HR.out; rw [List.drop_eq_nil_of_le (by omega),show aO (fun r:ae=>decide (r.p=st)) ae.k [] = [] from rfl,List.append_nil] at h1; exact h1
     obtain ⟨A3,c3,rfl⟩:=aw HO.out
     clear hro
     go_wp2
     go_ret2
     have e1:bh (true && true) (aO (fun r:ae=>decide (r.p=st)) ae.k x.o)=acc:=HE.out.symm
     rw [e1]
     exact ⟨_,_,rfl,(bP.of HO.out).lower b2.size,b2.trans (q.below.mono b2.size)⟩
set_option maxHeartbeats 2000000 in
theorem jc (x:aM) (st:Int) (w:World) (h:aQ w w.heap.size x) :
  Calls Tryz.prog 142 #[x.val,O U st] w fun e w'=>∃ A' c',e=.returned (.tuple #[F A' (bh (am x && aN x.t st) (aO (fun r:ae=>decide (r.k=st)) ae.p x.o)).length c',.bool (am x && aN x.t st)])∧bP w' w.heap.size 3 1 A' (bh (am x && aN x.t st) (aO (fun r:ae=>decide (r.k=st)) ae.p x.o)).length (bv (bh (am x && aN x.t st) (aO (fun r:ae=>decide (r.k=st)) ae.p x.o)))∧Below w.heap.size w w':=by
 have b2:=(Below.refl w.heap.size w).alloc (Nat.le_refl _) (.cells #[F x.TA x.t.length x.tc,F x.OA x.o.length x.oc,O U x.got,O U x.sold,O U x.missed] 40)
 have hA:=fY h 40
 have hsW:(w.alloc (.cells #[F x.TA x.t.length x.tc,F x.OA x.o.length x.oc,O U x.got,O U x.sold,O U x.missed] 40)).heap.size=w.heap.size+1:=Array.size_push _
 have HSW:=Lib.hid hsW; clear hsW
 have cG:=fun W hW=>dp x W hW
 cases hg:am x
 ·rw [hg] at cG
  clear hg
  go_enter Tryz.func142,Tryz.ntmps142
  go_wp2_with fail
  generalize (w.alloc (.cells #[F x.TA x.t.length x.tc,F x.OA x.o.length x.oc,O U x.got,O U x.sold,O U x.missed] 40))=W at b2 hA HSW ⊢
  obtain ⟨q0,hq0⟩ : ∃ q0:ao W.heap.size W,W.alloc (.cells #[] 3)=q0.val:=⟨⟨W.alloc (.cells #[] 3),(Below.refl _ _).alloc (Nat.le_refl _) _⟩,rfl⟩
  have hO:ai q0.val (w.heap.size+1) 3 []:=by rw [← hq0,← HSW.out]; exact ai.new W 3 #[]
  rw [hq0]
  clear hq0
  refine (cG _ (hA.r.at q0)).mono ?_
  rintro e w1 ⟨rfl,hb1⟩
  obtain ⟨q1,rfl⟩ : ∃ q1:ao W.heap.size W,w1=q1.val:=⟨q0.go (Nat.le_refl _) hb1,rfl⟩
  go_wp2
  go_ret2
  show ∃ A' c',_=Ending.returned (.tuple #[F A' ([] : List Int).length c',.bool false])∧bP _ _ _ 1 A' ([] : List Int).length (bv [])∧_
  exact ⟨_,_,rfl,⟨rfl,by simp,.inr ⟨w.heap.size+1,[],rfl,Nat.le_succ _,by simpa using (hO.below (hb1) hO.lt)⟩⟩,b2.trans (q1.below.mono b2.size)⟩
 ·rw [hg] at cG
  have G:=bm.1 hg
  have ol:=G.ol
  have hl:=h.os.big
  clear hg G
  obtain ⟨X,hX⟩ : ∃ X,av x.t st=X:=⟨_,rfl⟩
  have HX:Hid (Value.int .i64 (av x.t st)=O U X):=by rw [hX]; rfl
  obtain ⟨v2,hv2⟩ : ∃ v,aN x.t st=v:=⟨_,rfl⟩
  have hX0:decide (0≤X)=v2:=by rw [← hX,← hv2]; exact cQ _ _
  rw [hv2]
  clear hX hv2
  cases v2
  ·go_enter Tryz.func142,Tryz.ntmps142
   have hX1:X < 0:=by have:=of_decide_eq_false hX0; omega
   clear hX0
   go_wp2_with fail
   generalize (w.alloc (.cells #[F x.TA x.t.length x.tc,F x.OA x.o.length x.oc,O U x.got,O U x.sold,O U x.missed] 40))=W at b2 hA HSW ⊢
   obtain ⟨q0,hq0⟩ : ∃ q0:ao W.heap.size W,W.alloc (.cells #[] 3)=q0.val:=⟨⟨W.alloc (.cells #[] 3),(Below.refl _ _).alloc (Nat.le_refl _) _⟩,rfl⟩
   have hO:ai q0.val (w.heap.size+1) 3 []:=by rw [← hq0,← HSW.out]; exact ai.new W 3 #[]
   rw [hq0]
   clear hq0
   obtain ⟨p0,p1,p2,p3,p4⟩:=hA.s
   refine (cG _ (hA.r.at q0)).mono ?_
   rintro e w1 ⟨rfl,hb1⟩
   obtain ⟨q1,rfl⟩ : ∃ q1:ao W.heap.size W,w1=q1.val:=⟨q0.go (Nat.le_refl _) hb1,rfl⟩
   go_wp2_with fail
   refine (bx x st _ (hA.r.at q1)).mono ?_
   rw [HX.out]
   rintro e w2 ⟨rfl,hb2⟩
   have hb12:=ar hb1 hb2
   obtain ⟨q2,rfl⟩ : ∃ q2:ao W.heap.size W,w2=q2.val:=⟨q1.go (Nat.le_refl _) hb2,rfl⟩
   go_wp2
   go_ret2
   show ∃ A' c',_=Ending.returned (.tuple #[F A' ([] : List Int).length c',.bool false])∧bP _ _ _ 1 A' ([] : List Int).length (bv [])∧_
   exact ⟨_,_,rfl,⟨rfl,by simp,.inr ⟨w.heap.size+1,[],rfl,Nat.le_succ _,by simpa using (hO.below (hb12) hO.lt)⟩⟩,b2.trans (q2.below.mono b2.size)⟩
  ·have HF:Hid (aO (fun r:ae=>decide (r.k=st)) ae.p (x.o.drop 0)=aO (fun r:ae=>decide (r.k=st)) ae.p x.o):=rfl
   have hX1:0≤X:=of_decide_eq_true hX0
   clear hX0
   go_enter Tryz.func142,Tryz.ntmps142
   go_wp2_with fail
   generalize (w.alloc (.cells #[F x.TA x.t.length x.tc,F x.OA x.o.length x.oc,O U x.got,O U x.sold,O U x.missed] 40))=W at b2 hA HSW ⊢
   obtain ⟨q0,hq0⟩ : ∃ q0:ao W.heap.size W,W.alloc (.cells #[] 3)=q0.val:=⟨⟨W.alloc (.cells #[] 3),(Below.refl _ _).alloc (Nat.le_refl _) _⟩,rfl⟩
   have hO:ai q0.val (w.heap.size+1) 3 []:=by rw [← hq0,← HSW.out]; exact ai.new W 3 #[]
   rw [hq0]
   clear hq0
   obtain ⟨p0,p1,p2,p3,p4⟩:=hA.s
   have hro:=hA.r.os.el
   refine (cG _ (hA.r.at q0)).mono ?_
   rintro e w1 ⟨rfl,hb1⟩
   obtain ⟨q1,rfl⟩ : ∃ q1:ao W.heap.size W,w1=q1.val:=⟨q0.go (Nat.le_refl _) hb1,rfl⟩
   go_wp2_with fail
   refine (bx x st _ (hA.r.at q1)).mono ?_
   rw [HX.out]
   rintro e w2 ⟨rfl,hb2⟩
   have hb12:=ar hb1 hb2
   obtain ⟨q2,rfl⟩ : ∃ q2:ao W.heap.size W,w2=q2.val:=⟨q1.go (Nat.le_refl _) hb2,rfl⟩
   obtain ⟨OA,hOA⟩ : ∃ A,x.OA=A:=⟨_,rfl⟩
   rw [hOA] at hro
   simp only [hOA] at p1
   clear hOA
   go_wp2
   go_loopw [6,7] (fun out i wr=>∃ (k:Nat) (acc:List Int),k≤x.o.length∧i=O U k∧acc.length≤k∧Hid (wr.ownsRow W.heap.size 3 1 out acc.length (bv acc))∧(Below W.heap.size W wr)∧Hid (acc++aO (fun r:ae=>decide (r.k=st)) ae.p (x.o.drop k)=aO (fun r:ae=>decide (r.k=st)) ae.p x.o)) (fun _ i _=>x.o.length - (intOf i).toNat)
   case atStart=>exact ⟨0,[],Nat.zero_le _,rfl,Nat.zero_le _,((hO.below (hb12) hO.lt).own (B:=W.heap.size) (k:=1) (n:=0) (by rw [HSW.out]; exact Nat.le_refl _) rfl (by unfold maxLen; omega)),q2.below,HF⟩
   case round =>
    obtain ⟨k,acc,hk,rfl,hacc,HO,hbr,HR⟩:=hrel
    obtain ⟨q,rfl⟩ : ∃ q:ao W.heap.size W,wr=q.val:=⟨⟨wr,hbr⟩,rfl⟩
    by_cases hlt:k < x.o.length
    ·obtain ⟨b,off,rfl,hb,hcell⟩:=hro (by omega)
     obtain ⟨e0,e1,e2⟩:=hcell k hlt
     have hy:=fun hv=>iY (sel:=(fun r:ae=>decide (r.k=st))) (get:=ae.p) hlt hv
     have hn:=fun hv=>jS (sel:=(fun r:ae=>decide (r.k=st))) (get:=ae.p) hlt hv
     obtain ⟨r,hre⟩ : ∃ r,r=x.o[k]:=⟨_,rfl⟩
     rw [← hre] at e0 e1 e2 hy hn
     clear hre hcell hro
     by_cases hz:r.k=st
     ·have hv:(r.k == st)=true:=by simp [hz]
      have HE:Hid ((acc++[r.p])++aO (fun r:ae=>decide (r.k=st)) ae.p (x.o.drop (k+1))=aO (fun r:ae=>decide (r.k=st)) ae.p x.o):=by
       have h1:=HR.out; rw [hy (decide_eq_true hz)] at h1; unfold Hid; rw [List.append_assoc]; exact h1
      clear hy hn hz HR
      go_wp2_with (at_builtin; refine bU (w0:=q.val) rfl _ _ 100 rfl 3 (O U 0) 1 8 Tryz.underlying100 gF rfl (by decide) (by omega) W.heap.size _ _ _ rfl HO #[O U r.p] 1 _ rfl (by first | rfl | exact Array.size_push _) rfl (by simp [Value.oneCell']) (by omega) q.size rfl rfl rfl rfl ?_; intro v' w3 HO3 hg3 hb3)
      obtain ⟨A3,c3,rfl⟩:=aw HO3.out
      go_wp2
      go_roundw
      case rel=>exact ⟨k+1,acc++[r.p],by omega,by go_num,by simp; omega,by rw [List.length_append]; unfold bv at HO3 ⊢; rw [List.map_append]; exact HO3,q.below.grown hg3 q.size (fun g hg=>(HO.out.lt g hg).1),HE⟩
      case measure=>simp [intOf]; omega
     ·have hv:(r.k == st)=false:=by simp [hz]
      have HE:Hid (acc++aO (fun r:ae=>decide (r.k=st)) ae.p (x.o.drop (k+1))=aO (fun r:ae=>decide (r.k=st)) ae.p x.o):=by
       have h1:=HR.out; rw [hn (decide_eq_false hz)] at h1; exact h1
      clear hy hn hz HR
      go_wp2
      go_roundw
      case rel=>exact ⟨k+1,acc,by omega,by go_num,by omega,HO,q.below,HE⟩
      case measure=>simp [intOf]; omega
    ·have HE:Hid (acc=aO (fun r:ae=>decide (r.k=st)) ae.p x.o):=by
      have h1:=HR.out; rw [List.drop_eq_nil_of_le (by omega),show aO (fun r:ae=>decide (r.k=st)) ae.p [] = [] from rfl,List.append_nil] at h1; exact h1
     obtain ⟨A3,c3,rfl⟩:=aw HO.out
     clear hro
     go_wp2
     go_ret2
     have e1:bh (true && true) (aO (fun r:ae=>decide (r.k=st)) ae.p x.o)=acc:=HE.out.symm
     rw [e1]
     exact ⟨_,_,rfl,(bP.of HO.out).lower b2.size,b2.trans (q.below.mono b2.size)⟩
set_option maxHeartbeats 2000000 in
theorem jd (x:aM) (st:Int) (w:World) (h:aQ w w.heap.size x) :
  Calls Tryz.prog 155 #[x.val,O U st] w fun e w'=>∃ A' c',e=.returned (.tuple #[F A' (bh (am x && aN x.t st) (aO (fun r:ae=>decide (r.k=st)) ae.p x.o)).length c',.bool (am x && aN x.t st)])∧bP w' w.heap.size 3 1 A' (bh (am x && aN x.t st) (aO (fun r:ae=>decide (r.k=st)) ae.p x.o)).length (bv (bh (am x && aN x.t st) (aO (fun r:ae=>decide (r.k=st)) ae.p x.o)))∧Below w.heap.size w w':=by
 have b2:=(Below.refl w.heap.size w).alloc (Nat.le_refl _) (.cells #[F x.TA x.t.length x.tc,F x.OA x.o.length x.oc,O U x.got,O U x.sold,O U x.missed] 40)
 have hA:=fY h 40
 have hsW:(w.alloc (.cells #[F x.TA x.t.length x.tc,F x.OA x.o.length x.oc,O U x.got,O U x.sold,O U x.missed] 40)).heap.size=w.heap.size+1:=Array.size_push _
 have HSW:=Lib.hid hsW; clear hsW
 have cG:=fun W hW=>aX x w.heap.size W hW
 cases hg:am x
 ·rw [hg] at cG
  clear hg
  go_enter Tryz.func155,Tryz.ntmps155
  go_wp2_with fail
  generalize (w.alloc (.cells #[F x.TA x.t.length x.tc,F x.OA x.o.length x.oc,O U x.got,O U x.sold,O U x.missed] 40))=W at b2 hA HSW ⊢
  refine (aU (cG _ hA)).mono ?_
  rintro e w1 ⟨rfl,q1,rfl⟩
  go_wp2
  go_ret2
  show ∃ A' c',_=Ending.returned (.tuple #[F A' ([] : List Int).length c',.bool false])∧bP _ _ _ 1 A' ([] : List Int).length (bv [])∧_
  exact ⟨_,_,rfl,⟨rfl,by simp,.inl ⟨rfl,rfl⟩⟩,b2.trans (q1.below.mono b2.size)⟩
 ·rw [hg] at cG
  have G:=bm.1 hg
  have ol:=G.ol
  have hl:=h.os.big
  clear hg G
  obtain ⟨X,hX⟩ : ∃ X,av x.t st=X:=⟨_,rfl⟩
  have HX:Hid (Value.int .i64 (av x.t st)=O U X):=by rw [hX]; rfl
  obtain ⟨v2,hv2⟩ : ∃ v,aN x.t st=v:=⟨_,rfl⟩
  have hX0:decide (0≤X)=v2:=by rw [← hX,← hv2]; exact cQ _ _
  rw [hv2]
  clear hX hv2
  cases v2
  ·go_enter Tryz.func155,Tryz.ntmps155
   have hX1:X < 0:=by have:=of_decide_eq_false hX0; omega
   clear hX0
   go_wp2_with fail
   generalize (w.alloc (.cells #[F x.TA x.t.length x.tc,F x.OA x.o.length x.oc,O U x.got,O U x.sold,O U x.missed] 40))=W at b2 hA HSW ⊢
   obtain ⟨p0,p1,p2,p3,p4⟩:=hA.s
   refine (aU (cG _ hA)).mono ?_
   rintro e w1 ⟨rfl,q1,rfl⟩
   go_wp2_with fail
   refine (aP HX (Nat.le_refl _) (ba x w.heap.size st _ (hA.at q1))).mono ?_
   rintro e w2 ⟨rfl,q2,rfl⟩
   go_wp2
   go_ret2
   show ∃ A' c',_=Ending.returned (.tuple #[F A' ([] : List Int).length c',.bool false])∧bP _ _ _ 1 A' ([] : List Int).length (bv [])∧_
   exact ⟨_,_,rfl,⟨rfl,by simp,.inl ⟨rfl,rfl⟩⟩,b2.trans (q2.below.mono b2.size)⟩
  ·have HF:Hid (aO (fun r:ae=>decide (r.k=st)) ae.p (x.o.drop 0)=aO (fun r:ae=>decide (r.k=st)) ae.p x.o):=rfl
   have hX1:0≤X:=of_decide_eq_true hX0
   clear hX0
   go_enter Tryz.func155,Tryz.ntmps155
   go_wp2_with fail
   generalize (w.alloc (.cells #[F x.TA x.t.length x.tc,F x.OA x.o.length x.oc,O U x.got,O U x.sold,O U x.missed] 40))=W at b2 hA HSW ⊢
   obtain ⟨p0,p1,p2,p3,p4⟩:=hA.s
   have hro:=hA.r.os.el
   refine (aU (cG _ hA)).mono ?_
   rintro e w1 ⟨rfl,q1,rfl⟩
   go_wp2_with fail
   refine (aP HX (Nat.le_refl _) (ba x w.heap.size st _ (hA.at q1))).mono ?_
   rintro e w2 ⟨rfl,q2,rfl⟩
   obtain ⟨OA,hOA⟩ : ∃ A,x.OA=A:=⟨_,rfl⟩
   rw [hOA] at hro
   simp only [hOA] at p1
   clear hOA
   go_wp2
   go_loopw [6,19] (fun out i wr=>∃ (k:Nat) (acc:List Int),k≤x.o.length∧i=O U k∧acc.length≤k∧Hid (wr.ownsRow W.heap.size 3 1 out acc.length (bv acc))∧(Below W.heap.size W wr)∧Hid (acc++aO (fun r:ae=>decide (r.k=st)) ae.p (x.o.drop k)=aO (fun r:ae=>decide (r.k=st)) ae.p x.o)) (fun _ i _=>x.o.length - (intOf i).toNat)
   case atStart=>exact ⟨0,[],Nat.zero_le _,rfl,Nat.zero_le _,(World.ownsRow_nil _ _ _ _),q2.below,HF⟩
   case round =>
    obtain ⟨k,acc,hk,rfl,hacc,HO,hbr,HR⟩:=hrel
    obtain ⟨q,rfl⟩ : ∃ q:ao W.heap.size W,wr=q.val:=⟨⟨wr,hbr⟩,rfl⟩
    by_cases hlt:k < x.o.length
    ·obtain ⟨b,off,rfl,hb,hcell⟩:=hro (by omega)
     obtain ⟨e0,e1,e2⟩:=hcell k hlt
     have hy:=fun hv=>iY (sel:=(fun r:ae=>decide (r.k=st))) (get:=ae.p) hlt hv
     have hn:=fun hv=>jS (sel:=(fun r:ae=>decide (r.k=st))) (get:=ae.p) hlt hv
     obtain ⟨r,hre⟩ : ∃ r,r=x.o[k]:=⟨_,rfl⟩
     rw [← hre] at e0 e1 e2 hy hn
     clear hre hcell hro
     by_cases hz:r.k=st
     ·have hv:(r.k == st)=true:=by simp [hz]
      have HE:Hid ((acc++[r.p])++aO (fun r:ae=>decide (r.k=st)) ae.p (x.o.drop (k+1))=aO (fun r:ae=>decide (r.k=st)) ae.p x.o):=by
       have h1:=HR.out; rw [hy (decide_eq_true hz)] at h1; unfold Hid; rw [List.append_assoc]; exact h1
      clear hy hn hz HR
      have HOW:=Lib.hid (HO.out.alloc (.cells #[O U r.k,O U r.p,O U r.c] 147))
      have hbV:=q.below.alloc q.size (.cells #[O U r.k,O U r.p,O U r.c] 147)
      have hsV:=hbV.size
      clear HO
      go_wp2_with (at_builtin; refine bU (w0:=q.val.alloc (.cells #[O U r.k,O U r.p,O U r.c] 147)) rfl _ _ 100 rfl 3 (O U 0) 1 8 Tryz.underlying100 gF rfl (by decide) (by omega) W.heap.size _ _ _ rfl HOW #[O U r.p] 1 _ rfl (by first | rfl | exact Array.size_push _) rfl (by simp [Value.oneCell']) (by omega) hsV rfl rfl rfl rfl ?_; intro v' w3 HO3 hg3 hb3)
      obtain ⟨A3,c3,rfl⟩:=aw HO3.out
      go_wp2
      go_roundw
      case rel=>exact ⟨k+1,acc++[r.p],by omega,by go_num,by simp; omega,by rw [List.length_append]; unfold bv at HO3 ⊢; rw [List.map_append]; exact HO3,hbV.grown hg3 hbV.size (fun g hg=>(HOW.out.lt g hg).1),HE⟩
      case measure=>simp [intOf]; omega
     ·have hv:(r.k == st)=false:=by simp [hz]
      have HE:Hid (acc++aO (fun r:ae=>decide (r.k=st)) ae.p (x.o.drop (k+1))=aO (fun r:ae=>decide (r.k=st)) ae.p x.o):=by
       have h1:=HR.out; rw [hn (decide_eq_false hz)] at h1; exact h1
      clear hy hn hz HR
      go_wp2
      go_roundw
      case rel=>exact ⟨k+1,acc,by omega,by go_num,by omega,Lib.hid (HO.out.alloc _),q.below.alloc q.size _,HE⟩
      case measure=>simp [intOf]; omega
    ·have HE:Hid (acc=aO (fun r:ae=>decide (r.k=st)) ae.p x.o):=by
      have h1:=HR.out; rw [List.drop_eq_nil_of_le (by omega),show aO (fun r:ae=>decide (r.k=st)) ae.p [] = [] from rfl,List.append_nil] at h1; exact h1
     obtain ⟨A3,c3,rfl⟩:=aw HO.out
     clear hro
     go_wp2
     go_ret2
     have e1:bh (true && true) (aO (fun r:ae=>decide (r.k=st)) ae.p x.o)=acc:=HE.out.symm
     rw [e1]
     exact ⟨_,_,rfl,(bP.of HO.out).lower b2.size,b2.trans (q.below.mono b2.size)⟩
def iy (l:List ae) (p:Int):Int:=aS (fun o=>decide (o.p=p)) l
def cH (l:List ae):List ae→Int × Int→Int × Int
 | [],b=>b
 | r :: rest,b=>cH l rest (if b.2 < iy l r.p ∨ iy l r.p=b.2∧r.p < b.1 then (r.p,iy l r.p) else b)
def f9 (l:List ae):Nat→Int→Int × Int→Int × Int
 | 0,_,b=>b
 | n+1,p,b=>f9 l n (p+1) (if b.2 < iy l p then (p,iy l p) else b)
theorem gf (f:ae→Bool):∀ (l:List ae) (s:Int),(∀ r ∈ l,1≤r.c)→s≤bj f s l
 | [],s,_=>Int.le_refl _
 | r :: l,s,h=>by
  have h1:=h r (List.mem_cons_self ..)
  have:=gf f l (if f r then s+r.c else s) (fun x hx=>h x (List.mem_cons_of_mem _ hx))
  simp only [bj]
  cases hf:f r <;> simp only [hf,if_true,if_false,Bool.false_eq_true] at this ⊢ <;> omega
theorem iO (f:ae→Bool):∀ (l:List ae) (s:Int),(∀ r ∈ l,1≤r.c)→(∃ r ∈ l,f r=true)→s < bj f s l
 | [],_,_,⟨_,h,_⟩=>by cases h
 | r :: l,s,h,⟨x,hx,hf⟩=>by
  have h1:=h r (List.mem_cons_self ..)
  have hl:∀ y ∈ l,1≤y.c:=fun y hy=>h y (List.mem_cons_of_mem _ hy)
  simp only [bj]
  cases hr:f r
  ·simp only [Bool.false_eq_true,if_false]
   rcases List.mem_cons.1 hx with rfl | hx
   ·rw [hf] at hr; cases hr
   ·exact iO f l s hl ⟨x,hx,hf⟩
  ·simp only [if_true]
   have:=gf f l (s+r.c) hl
   omega
theorem jT (f:ae→Bool):∀ (l:List ae) (s:Int),(∀ r ∈ l,f r=false)→bj f s l=s
 | [],_,_=>rfl
 | r :: l,s,h=>by
  simp only [bj]
  rw [h r (List.mem_cons_self ..)]
  exact jT f l s fun x hx=>h x (List.mem_cons_of_mem _ hx)
structure iq (l:List ae) (P:Int→Prop) (b:Int × Int):Prop where
 top:∀ p,P p→iy l p≤b.2
 is:(b=(0,0)∧∀ p,P p→iy l p≤0) ∨ (P b.1∧b.2=iy l b.1∧0 < b.2∧∀ p,P p→iy l p=b.2→b.1≤p)
theorem iq.unique {l:List ae} {P Q:Int→Prop} {a b:Int × Int} (ha:iq l P a) (hb:iq l Q b) (hpq:∀ p,0 < iy l p→(P p ↔ Q p)):a=b:=by
 rcases ha.is with ⟨rfl,ha0⟩ | ⟨ha1,ha2,ha3,ha4⟩
 ·rcases hb.is with ⟨rfl,_⟩ | ⟨hb1,hb2,hb3,_⟩
  ·rfl
  ·have:=ha0 b.1 ((hpq b.1 (by omega)).2 hb1); omega
 ·rcases hb.is with ⟨rfl,hb0⟩ | ⟨hb1,hb2,hb3,hb4⟩
  ·have:=hb0 a.1 ((hpq a.1 (by omega)).1 ha1); omega
  ·have h1:=ha.top b.1 ((hpq b.1 (by omega)).2 hb1)
   have h2:=hb.top a.1 ((hpq a.1 (by omega)).1 ha1)
   have e2:a.2=b.2:=by omega
   have h3:=ha4 b.1 ((hpq b.1 (by omega)).2 hb1) (by omega)
   have h4:=hb4 a.1 ((hpq a.1 (by omega)).1 ha1) (by omega)
   have e1:a.1=b.1:=by omega
   cases a; cases b; simp only at e1 e2; rw [e1,e2]
theorem iq.nil (l:List ae) {P:Int→Prop} (h:∀ p,¬ P p):iq l P (0,0):=⟨fun p hp=>absurd hp (h p),.inl ⟨rfl,fun p hp=>absurd hp (h p)⟩⟩
theorem iq.step {l:List ae} {P:Int→Prop} {b:Int × Int} (h:iq l P b) (q:Int) (hq:0 < iy l q) :
  iq l (fun p=>P p ∨ p=q) (if b.2 < iy l q ∨ iy l q=b.2∧q < b.1 then (q,iy l q) else b):=by
 split
 ·rename_i hc
  refine ⟨fun p hp=>?_,.inr ⟨.inr rfl,rfl,hq,fun p hp he=>?_⟩⟩
  ·rcases hp with hp | rfl
   ·have:=h.top p hp; simp only; omega
   ·exact Int.le_refl _
  ·simp only at he ⊢
   rcases hp with hp | rfl
   ·have h1:=h.top p hp
    rcases h.is with ⟨rfl,h0⟩ | ⟨_,_,_,h4⟩
    ·have:=h0 p hp; omega
    ·rcases hc with hc | ⟨hc,hlt⟩
     ·omega
     ·have:=h4 p hp (by omega); omega
   ·exact Int.le_refl _
 ·rename_i hc
  have hc1:iy l q≤b.2:=by omega
  have hc2:iy l q=b.2→b.1≤q:=fun e=>by omega
  refine ⟨fun p hp=>?_,.inr ?_⟩
  ·rcases hp with hp | rfl
   ·exact h.top p hp
   ·exact hc1
  ·rcases h.is with ⟨rfl,_⟩ | ⟨h1,h2,h3,h4⟩
   ·simp only at hc1; omega
   ·exact ⟨.inl h1,h2,h3,fun p hp he=>by
     rcases hp with hp | rfl
     ·exact h4 p hp he
     ·exact hc2 he⟩
theorem iq.next {l:List ae} {lo q:Int} {b:Int × Int} (h:iq l (fun p=>lo≤p∧p < q) b) (hlo:lo≤q) (h0:0≤iy l q) :
  iq l (fun p=>lo≤p∧p < q+1) (if b.2 < iy l q then (q,iy l q) else b):=by
 have hb0:0≤b.2:=by
  rcases h.is with ⟨rfl,_⟩ | ⟨_,_,h3,_⟩
  ·exact Int.le_refl _
  ·omega
 split
 ·rename_i hc
  refine ⟨fun p hp=>?_,.inr ⟨⟨hlo,by simp only; omega⟩,rfl,by simp only; omega,fun p hp he=>?_⟩⟩
  ·rcases Int.lt_or_le p q with hlt | hge
   ·have:=h.top p ⟨hp.1,hlt⟩; simp only; omega
   ·obtain rfl:p=q:=by omega
    exact Int.le_refl _
  ·simp only at he ⊢
   rcases Int.lt_or_le p q with hlt | hge
   ·have:=h.top p ⟨hp.1,hlt⟩; omega
   ·exact hge
 ·rename_i hc
  refine ⟨fun p hp=>?_, ?_⟩
  ·rcases Int.lt_or_le p q with hlt | hge
   ·exact h.top p ⟨hp.1,hlt⟩
   ·obtain rfl:p=q:=by omega
    omega
  ·rcases h.is with ⟨rfl,hz⟩ | ⟨h1,h2,h3,h4⟩
   ·refine .inl ⟨rfl,fun p hp=>?_⟩
    rcases Int.lt_or_le p q with hlt | hge
    ·exact hz p ⟨hp.1,hlt⟩
    ·obtain rfl:p=q:=by omega
     simp only at hc; omega
   ·refine .inr ⟨⟨h1.1,by omega⟩,h2,h3,fun p hp he=>?_⟩
    rcases Int.lt_or_le p q with hlt | hge
    ·exact h4 p ⟨hp.1,hlt⟩ he
    ·omega
theorem iP (l:List ae) (hc:∀ r ∈ l,1≤r.c):∀ (rest:List ae) (P:Int→Prop) (b:Int × Int),(∀ r ∈ rest,r ∈ l)→iq l P b→iq l (fun p=>P p ∨ ∃ r ∈ rest,r.p=p) (cH l rest b)
 | [],P,b,_,h=>by
  have e:(fun p=>P p ∨ ∃ r ∈ ([] : List ae),r.p=p)=P:=by funext p; simp
  rw [e]; exact h
 | r :: rest,P,b,hm,h=>by
  have hr:0 < iy l r.p:=iO _ l 0 hc ⟨r,hm r (List.mem_cons_self ..),decide_eq_true rfl⟩
  have:=iP l hc rest _ _ (fun x hx=>hm x (List.mem_cons_of_mem _ hx)) (h.step r.p hr)
  have e:(fun p=>P p ∨ ∃ x ∈ r :: rest,x.p=p)=(fun p=>(P p ∨ p=r.p) ∨ ∃ x ∈ rest,x.p=p):=by
   funext p
   simp only [List.mem_cons,eq_iff_iff]
   constructor
   ·rintro (h | ⟨x,(rfl | hx),rfl⟩)
    ·exact .inl (.inl h)
    ·exact .inl (.inr rfl)
    ·exact .inr ⟨x,hx,rfl⟩
   ·rintro ((h | rfl) | ⟨x,hx,rfl⟩)
    ·exact .inl h
    ·exact .inr ⟨r,.inl rfl,rfl⟩
    ·exact .inr ⟨x,.inr hx,rfl⟩
  rw [e]; exact this
theorem kU (l:List ae) (hc:∀ r ∈ l,1≤r.c) (lo:Int):∀ (n:Nat) (q:Int) (b:Int × Int),lo≤q→iq l (fun p=>lo≤p∧p < q) b→iq l (fun p=>lo≤p∧p < q+n) (f9 l n q b)
 | 0,q,b,_,h=>by simpa [f9] using h
 | n+1,q,b,hq,h=>by
  have h0:0≤iy l q:=gf _ l 0 hc
  have:=kU l hc lo n (q+1) _ (by omega) (h.next hq h0)
  have e:q+1+(n:Int)=q+((n+1:Nat):Int):=by omega
  rw [e] at this
  exact this
theorem qN (l:List ae) (hc:∀ r ∈ l,1≤r.c) (hp:∀ r ∈ l,1≤r.p∧r.p≤999):f9 l 999 1 (0,0)=cH l l (0,0):=by
 have h1:=kU l hc 1 999 1 (0,0) (Int.le_refl _) (iq.nil l fun p h=>by omega)
 have h2:=iP l hc l (fun _=>False) (0,0) (fun _ h=>h) (iq.nil l fun p h=>h)
 refine iq.unique h1 h2 fun p hpos=>?_
 have hex:∃ r ∈ l,r.p=p:=by
  rcases Classical.em (∃ r ∈ l,r.p=p) with h | h
  ·exact h
  ·have:iy l p=0:=jT _ l 0 fun r hr=>decide_eq_false fun e=>h ⟨r,hr,e⟩
   omega
 obtain ⟨r,hr,rfl⟩:=hex
 have:=hp r hr
 exact ⟨fun _=>.inr ⟨r,hr,rfl⟩,fun _=>⟨this.1,by omega⟩⟩
def ch (x:aM):Bool:=am x && decide (0 < x.o.length)
def cJ (x:aM):Int:=if ch x then (cH x.o x.o (0,0)).1 else 0
theorem mA {l m:List ae} {k:Nat} (h:k < m.length) (b:Int × Int):cH l (m.drop k) b=cH l (m.drop (k+1)) (if b.2 < iy l m[k].p ∨ iy l m[k].p=b.2∧m[k].p < b.1 then (m[k].p,iy l m[k].p) else b):=by
 rw [List.drop_eq_getElem_cons h]; rfl
set_option maxHeartbeats 1000000 in
theorem px (x:aM) (st:Int) (w:World) (h:aQ w w.heap.size x) (ol:x.o.length≤8) (ho:∀ i (hi:i < x.o.length),x.o[i].ok x.t=true) :
  Calls Tryz.prog 177 #[x.val,O U st] w fun e w'=>e=.returned (O U (iy x.o st))∧Below w.heap.size w w':=by
 have HO:=Lib.hid ho; clear ho
 have HG:Hid (bj (fun o=>decide (o.p=st)) 0 (x.o.drop 0)=iy x.o st):=rfl
 go_enter Tryz.func177,Tryz.ntmps177
 go_wp2
 have hb0:=(Below.refl w.heap.size w).alloc (Nat.le_refl _) (.cells #[F x.TA x.t.length x.tc,F x.OA x.o.length x.oc,O U x.got,O U x.sold,O U x.missed] 40)
 have hA:=fY h 40
 generalize w.alloc (.cells #[F x.TA x.t.length x.tc,F x.OA x.o.length x.oc,O U x.got,O U x.sold,O U x.missed] 40)=W at hb0 hA ⊢
 obtain ⟨s0,s1,s2,s3,s4⟩:=hA.s
 have hro:=hA.r.os.el
 obtain ⟨OA,hOA⟩ : ∃ A,x.OA=A:=⟨_,rfl⟩
 rw [hOA] at hro
 simp only [hOA] at s1
 clear hOA
 go_loopw [5,6] (fun s i wr=>∃ (k:Nat) (u:Int),k≤x.o.length∧i=O U k∧s=O U u∧(0≤u∧u≤9999 * (k:Int))∧(∃ q:ao W.heap.size W,wr=q.val)∧Hid (bj (fun o=>decide (o.p=st)) u (x.o.drop k)=iy x.o st)) (fun _ i _=>x.o.length - (intOf i).toNat)
 case atStart=>exact ⟨0,0,Nat.zero_le _,rfl,rfl,by omega,⟨ao.start _ _,rfl⟩,HG⟩
 case round =>
  obtain ⟨j,u,hj,rfl,rfl,⟨u0,u1⟩,⟨p,rfl⟩,HU⟩:=hrel
  by_cases hlj:j < x.o.length
  ·obtain ⟨b,off,rfl,hb,hcell⟩:=hro (by omega)
   obtain ⟨e0,e1,e2⟩:=hcell j hlj
   obtain ⟨_,_,x1,x2⟩:=ae.bounds (HO.out j hlj)
   have HS:=Lib.hid (jE (f:=fun o:ae=>decide (o.p=st)) hlj u)
   obtain ⟨r,hre⟩ : ∃ r,r=x.o[j]:=⟨_,rfl⟩
   rw [← hre] at e0 e1 e2 HS x1 x2
   clear hre hcell hro
   by_cases hz:r.p=st
   ·have hv:(r.p == st)=true:=by simp [hz]
    have HE:Hid (bj (fun o=>decide (o.p=st)) (u+r.c) (x.o.drop (j+1))=iy x.o st):=by
     have h1:=HU.out; rw [HS.out,if_pos (decide_eq_true hz)] at h1; exact h1
    clear hz
    go_wp2
    go_roundw
    case rel=>exact ⟨j+1,u+r.c,by omega,by go_num,rfl,by omega,⟨p,rfl⟩,HE⟩
    case measure=>simp [intOf]; omega
   ·have hv:(r.p == st)=false:=by simp [hz]
    have HE:Hid (bj (fun o=>decide (o.p=st)) u (x.o.drop (j+1))=iy x.o st):=by
     have h1:=HU.out; rw [HS.out,if_neg (by rw [decide_eq_false hz]; exact Bool.false_ne_true)] at h1; exact h1
    clear hz
    go_wp2
    go_roundw
    case rel=>exact ⟨j+1,u,by omega,by go_num,rfl,by omega,⟨p,rfl⟩,HE⟩
    case measure=>simp [intOf]; omega
  ·have HE2:Hid (u=iy x.o st):=by
    have h1:=HU.out; rw [List.drop_eq_nil_of_le (by omega)] at h1; exact h1
   clear hro
   go_wp2
   go_ret
   exact ⟨by rw [← HE2.out]; rfl,hb0.trans (p.below.mono hb0.size)⟩
set_option maxHeartbeats 2000000 in
theorem iB (x:aM) (w:World) (h:aQ w w.heap.size x) :
  Calls Tryz.prog 139 #[x.val] w fun e w'=>e=.returned (.tuple #[O U (cJ x),.bool (ch x)])∧Below w.heap.size w w':=by
 have b1:=(Below.refl w.heap.size w).alloc (Nat.le_refl _) (.cells #[F x.TA x.t.length x.tc,F x.OA x.o.length x.oc,O U x.got,O U x.sold,O U x.missed] 40)
 have hA:=fY h 40
 have cG:=fun W hW=>dp x W hW
 cases hg:am x
 ·have HF:Hid (cJ x=0∧ch x=false):=by unfold cJ ch; rw [hg]; exact ⟨rfl,rfl⟩
  rw [hg] at cG
  clear hg
  go_enter Tryz.func139,Tryz.ntmps139
  go_wp2_with fail
  generalize w.alloc (.cells #[F x.TA x.t.length x.tc,F x.OA x.o.length x.oc,O U x.got,O U x.sold,O U x.missed] 40)=W at b1 hA ⊢
  refine (cG _ hA.r).mono ?_
  rintro e w1 ⟨rfl,hb⟩
  go_wp2
  go_ret2
  exact ⟨by rw [HF.out.1,HF.out.2]; rfl,ar b1 hb⟩
 ·have G:=bm.1 hg
  have ol:=G.ol
  have cM:=fun st W hW=>px x st W hW G.ol G.oall
  have HGD:Hid (am x=true):=hg
  rw [hg] at cG
  clear hg G
  by_cases hlen:0 < x.o.length
  ·have HF:Hid (cJ x=(cH x.o x.o (0,0)).1∧ch x=true):=by
    have:ch x=true:=by unfold ch; rw [HGD.out,decide_eq_true hlen]; rfl
    unfold cJ; rw [this]; exact ⟨rfl,rfl⟩
   have hne:((x.o.length:Int) == 0)=false:=by rw [beq_eq_false_iff_ne]; omega
   have HS0:Hid (cH x.o (x.o.drop 0) (0,0)=cH x.o x.o (0,0)):=rfl
   go_enter Tryz.func139,Tryz.ntmps139
   go_wp2_with fail
   generalize w.alloc (.cells #[F x.TA x.t.length x.tc,F x.OA x.o.length x.oc,O U x.got,O U x.sold,O U x.missed] 40)=W at b1 hA ⊢
   obtain ⟨s0,s1,s2,s3,s4⟩:=hA.s
   have hro:=hA.r.os.el
   refine (aU (cG _ hA.r)).mono ?_
   rintro e w1 ⟨rfl,q1,rfl⟩
   go_wp2
   go_loopw [4,5,6] (fun bb mm i wr=>∃ (k:Nat) (b:Int × Int),k≤x.o.length∧i=O U k∧bb=O U b.1∧mm=O U b.2∧(∃ q:ao W.heap.size W,wr=q.val)∧Hid (cH x.o (x.o.drop k) b=cH x.o x.o (0,0))) (fun _ _ i _=>x.o.length - (intOf i).toNat)
   case atStart=>exact ⟨0,(0,0),Nat.zero_le _,rfl,rfl,rfl,⟨q1,rfl⟩,HS0⟩
   case round =>
    obtain ⟨k,⟨b1',b2'⟩,hk,rfl,rfl,rfl,⟨q,rfl⟩,HR⟩:=hrel
    by_cases hlt:k < x.o.length
    ·obtain ⟨b,off,hOA,hb,hcell⟩:=hro (by omega)
     obtain ⟨e0,e1,e2⟩:=hcell k hlt
     have HS:=Lib.hid (mA (l:=x.o) hlt (b1',b2'))
     obtain ⟨r,hre⟩ : ∃ r,r=x.o[k]:=⟨_,rfl⟩
     rw [← hre] at e0 e1 e2 HS
     have hxe:({ x with OA:=some ⟨b,off,none⟩ } : aM)=x:=by rw [← hOA]
     have hRV:∀ p:ao W.heap.size W,aQ p.val p.val.heap.size { x with OA:=some ⟨b,off,none⟩ }:=fun p=>by rw [hxe]; exact hA.r.at p
     have cM' : ∀ W',aQ W' W'.heap.size { x with OA:=some ⟨b,off,none⟩ }→Calls Tryz.prog 177 #[aM.val { x with OA:=some ⟨b,off,none⟩ },O U r.p] W' fun e w'=>e=.returned (O U (iy x.o r.p))∧Below W'.heap.size W' w':=fun W' hW'=>by rw [hxe] at hW' ⊢; exact cM r.p W' hW'
     simp only [hOA] at s1
     clear hre hcell hro hOA hxe
     simp only at HS
     go_wp2_with fail
     refine (aK (Nat.le_refl _) (cM' _ (hRV q))).mono ?_
     rintro e w2 ⟨rfl,q2,rfl⟩
     obtain ⟨V,hV⟩ : ∃ V,iy x.o r.p=V:=⟨_,rfl⟩
     rw [hV] at HS
     rw [hV]
     clear hV
     by_cases h1:b2' < V
     ·rw [if_pos (Or.inl h1)] at HS
      go_wp2
      go_roundw
      case rel=>exact ⟨k+1,(r.p,V),by omega,by go_num,rfl,rfl,⟨q2,rfl⟩,by have h1:=HR.out; rw [HS.out] at h1; exact h1⟩
      case measure=>simp [intOf]; omega
     ·by_cases h2:V=b2'∧r.p < b1'
      ·rw [if_pos (Or.inr h2)] at HS
       obtain ⟨h3,h4⟩:=h2
       have hv:(V == b2')=true:=by simp [h3]
       have H3:=Lib.hid h3; clear h3
       go_wp2
       go_roundw
       case rel=>exact ⟨k+1,(r.p,V),by omega,by go_num,rfl,rfl,⟨q2,rfl⟩,by have h1:=HR.out; rw [HS.out] at h1; exact h1⟩
       case measure=>simp [intOf]; omega
      ·rw [if_neg (by intro h; rcases h with h | h; exact h1 h; exact h2 h)] at HS
       by_cases h3:V=b2'
       ·have h4 : ¬ r.p < b1':=fun h=>h2 ⟨h3,h⟩
        have hv:(V == b2')=true:=by simp [h3]
        clear h2 h3
        go_wp2
        go_roundw
        case rel=>exact ⟨k+1,(b1',b2'),by omega,by go_num,rfl,rfl,⟨q2,rfl⟩,by have h1:=HR.out; rw [HS.out] at h1; exact h1⟩
        case measure=>simp [intOf]; omega
       ·have hv:(V == b2')=false:=by simp [h3]
        clear h2 h3
        go_wp2
        go_roundw
        case rel=>exact ⟨k+1,(b1',b2'),by omega,by go_num,rfl,rfl,⟨q2,rfl⟩,by have h1:=HR.out; rw [HS.out] at h1; exact h1⟩
        case measure=>simp [intOf]; omega
    ·have HE:Hid ((b1',b2')=cH x.o x.o (0,0)):=by
      have h1:=HR.out; rw [List.drop_eq_nil_of_le (by omega)] at h1; exact h1
     clear hro
     go_wp2
     go_ret2
     exact ⟨by rw [HF.out.1,HF.out.2,← HE.out]; rfl,b1.trans (q.below.mono b1.size)⟩
  ·have HF:Hid (cJ x=0∧ch x=false):=by
    have:ch x=false:=by unfold ch; rw [decide_eq_false hlen,Bool.and_false]
    unfold cJ; rw [this]; exact ⟨rfl,rfl⟩
   have hne:((x.o.length:Int) == 0)=true:=by rw [beq_iff_eq]; omega
   go_enter Tryz.func139,Tryz.ntmps139
   go_wp2_with fail
   generalize w.alloc (.cells #[F x.TA x.t.length x.tc,F x.OA x.o.length x.oc,O U x.got,O U x.sold,O U x.missed] 40)=W at b1 hA ⊢
   obtain ⟨s0,s1,s2,s3,s4⟩:=hA.s
   refine (aU (cG _ hA.r)).mono ?_
   rintro e w1 ⟨rfl,q1,rfl⟩
   go_wp2
   go_ret2
   exact ⟨by rw [HF.out.1,HF.out.2]; rfl,b1.trans (q1.below.mono b1.size)⟩
theorem eK {sel:ae→Bool} {get:ae→Int} {p:Int} : ∀ {l:List ae},p ∈ aO sel get l ↔ ∃ r ∈ l,sel r=true∧get r=p
 | []=>by simp [aO]
 | r :: l=>by
  unfold aO
  have ih:=eK (sel:=sel) (get:=get) (p:=p) (l:=l)
  split
  ·rename_i h
   rw [List.mem_cons,ih]
   constructor
   ·rintro (rfl | ⟨q,h1,h2⟩)
    ·exact ⟨r,List.mem_cons_self ..,h,rfl⟩
    ·exact ⟨q,List.mem_cons_of_mem _ h1,h2⟩
   ·rintro ⟨q,h1,h2,rfl⟩
    rcases List.mem_cons.1 h1 with rfl | h1
    ·exact .inl rfl
    ·exact .inr ⟨q,h1,h2,rfl⟩
  ·rename_i h
   rw [ih]
   constructor
   ·rintro ⟨q,h1,h2⟩; exact ⟨q,List.mem_cons_of_mem _ h1,h2⟩
   ·rintro ⟨q,h1,h2,h3⟩
    rcases List.mem_cons.1 h1 with rfl | h1
    ·exact absurd h2 h
    ·exact ⟨q,h1,h2,h3⟩
theorem py {x:aM} (G:bn x) {r:ae} (h:r ∈ x.o):r.ok x.t=true:=by
 obtain ⟨i,hi,rfl⟩:=List.getElem_of_mem h
 exact G.oall i hi
theorem rL {x:aM} (h:ch x=true) :
  (am x && bI (cJ x) 1 999)=true∧0 < (bh (am x && bI (cJ x) 1 999) (aO (fun r:ae=>decide (r.p=cJ x)) ae.k x.o)).length:=by
 have h':=h
 unfold ch at h'
 rw [Bool.and_eq_true,decide_eq_true_eq] at h'
 have G:=bm.1 h'.1
 have hc:∀ r ∈ x.o,1≤r.c:=fun r hr=>(ae.bounds (py G hr)).2.2.1
 have B:=iP x.o hc x.o (fun _=>False) (0,0) (fun _ h=>h) (iq.nil _ fun _ h=>h)
 have hv:cJ x=(cH x.o x.o (0,0)).1:=by unfold cJ; rw [if_pos h]
 have key:∃ r ∈ x.o,r.p=cJ x:=by
  rw [hv]
  rcases B.is with ⟨_,h0⟩ | ⟨h1,_⟩
  ·have hm:x.o[0]'h'.2 ∈ x.o:=List.getElem_mem _
   have h1:=h0 _ (.inr ⟨_,hm,rfl⟩)
   have h2:0 < iy x.o (x.o[0]'h'.2).p:=iO _ _ 0 hc ⟨_,hm,decide_eq_true rfl⟩
   omega
  ·rcases h1 with h1 | h1
   ·exact h1.elim
   ·exact h1
 obtain ⟨r,h1,h2⟩:=key
 have hb:=(ae.bounds (py G h1)).2.1
 rw [h2] at hb
 have e:(am x && bI (cJ x) 1 999)=true:=by rw [h'.1,bH.2 hb]; rfl
 refine ⟨e, ?_⟩
 rw [e,bh,if_pos rfl]
 exact List.length_pos_of_mem (eK.2 ⟨r,h1,decide_eq_true h2,rfl⟩)
theorem mP {n:Nat} (h:n < 10):Lib.decDigits n = [UInt8.ofNat (48+n)]:=by rw [Lib.decDigits,dif_pos h]
theorem sh {n:Nat} (h : ¬ n < 10):Lib.decDigits n=Lib.decDigits (n / 10)++[UInt8.ofNat (48+n % 10)]:=by rw [Lib.decDigits,dif_neg h]
theorem lV:∀ {n:Nat},n < 10→(⟨#[48,49,50,51,52,53,54,55,56,57]⟩ : ByteArray).extract n (n+1)=⟨[UInt8.ofNat (48+n)].toArray⟩
 | 0,_=>by decide | 1,_=>by decide | 2,_=>by decide | 3,_=>by decide | 4,_=>by decide
 | 5,_=>by decide | 6,_=>by decide | 7,_=>by decide | 8,_=>by decide | 9,_=>by decide
theorem qm {n:Nat} (h:n≤1000000000):(⟨(Lib.decDigits n).toArray⟩ : ByteArray).size≤100:=by
 show (Lib.decDigits n).toArray.size≤100
 rw [List.size_toArray,Lib.decDigits_length]
 have:=Lib.nDigits_le20 n (by omega)
 omega
set_option maxHeartbeats 1000000 in
theorem qO (k:Nat):∀ (n:Nat) (w:World),n < 10 ^ k→n≤1000000000 →
  Calls Tryz.prog 71 #[O U (n:Int)] w fun e w'=>e=.returned (sQ ⟨(Lib.decDigits n).toArray⟩)∧Below w.heap.size w w':=by
 induction k with
 | zero =>
  intro n w hn _
  have h0:n=0:=by simpa using hn
  subst h0
  have HD:=Lib.hid (mP (n:=0) (by omega))
  have HE:=Lib.hid (lV (n:=0) (by omega))
  go_enter Tryz.func71,Tryz.ntmps71
  go_wp2
  go_ret
  exact ⟨by rw [HD.out,← HE.out]; rfl,Below.refl _ _⟩
 | succ k ih =>
  intro n w hn hb
  by_cases h10:n < 10
  ·have HD:=Lib.hid (mP h10)
   have HE:=Lib.hid (lV h10)
   go_enter Tryz.func71,Tryz.ntmps71
   go_wp2
   go_ret
   exact ⟨by rw [HD.out,← HE.out]; rfl,Below.refl _ _⟩
  ·have HD:=Lib.hid (sh h10)
   have hr:n % 10 < 10:=Nat.mod_lt _ (by omega)
   have HE:=Lib.hid (lV hr)
   have hk:n / 10 < 10 ^ k:=Nat.div_lt_of_lt_mul (by rw [Nat.mul_comm,← Nat.pow_succ]; exact hn)
   obtain ⟨sv,hsv⟩ : ∃ s:ByteArray,s=⟨(Lib.decDigits (n / 10)).toArray⟩:=⟨_,rfl⟩
   obtain ⟨dv,hdv⟩ : ∃ s:ByteArray,s=(⟨#[48,49,50,51,52,53,54,55,56,57]⟩ : ByteArray).extract (n % 10) (n % 10+1):=⟨_,rfl⟩
   have hss:sv.size≤100:=by rw [hsv]; exact qm (by omega)
   have hds:dv.size≤10:=by rw [hdv,HE.out]; exact (by decide:(1:Nat)≤10)
   have ih' : ∀ W:World,Calls Tryz.prog 71 #[O U ((n:Int) / 10)] W fun e w'=>e=.returned (sQ sv)∧Below W.heap.size W w':=fun W=>by
    have:=ih (n / 10) W hk (by omega)
    rw [Int.natCast_ediv] at this; rw [hsv]; exact this
   have IH:=Lib.hid ih'; clear ih' ih
   have hex:=hdv.symm
   have HSV:=Lib.hid hsv; clear hsv
   have HDV:=Lib.hid hdv; clear hdv
   have e1:(n:Int).tdiv 10=(n:Int) / 10:=Int.tdiv_eq_ediv_of_nonneg (by omega)
   have e2:(n:Int).tmod 10=(n:Int) % 10:=Int.tmod_eq_emod_of_nonneg (by omega)
   go_enter Tryz.func71,Tryz.ntmps71
   go_wp2_with fail
   refine au (by kernel_rfl) (by kernel_rfl) ?_
   repeat (any_goals (first | go_big_quiet_step ((go_at_call 71; refine aK (Nat.le_refl _) (IH.out _))) | (refine wpQuiet_step (fun K hK=>?_); go_simp; split <;> (refine hK _ ?_; clear hK K))))
   all_goals (refine wpQuiet_nil ?_; rintro _ ⟨q1,rfl⟩)
   go_wp2
   go_ret
   exact ⟨by rw [HD.out,HSV.out,HDV.out,HE.out,ByteArray.mk_append_mk]; rfl,q1.below⟩
theorem cl (n:Int) (w:World) (h0:0≤n) (h1:n≤1000000000) :
  Calls Tryz.prog 71 #[O U n] w fun e w'=>e=.returned (sQ ⟨(Lib.itoa n).toArray⟩)∧Below w.heap.size w w':=by
 obtain ⟨m,rfl⟩:=Int.eq_ofNat_of_zero_le h0
 have e:Lib.itoa (m:Int)=Lib.decDigits m:=by unfold Lib.itoa; rw [if_neg (by omega),Int.toNat_natCast]
 have e' : Lib.itoa (Int.ofNat m)=Lib.decDigits m:=e
 first | rw [e] | rw [e']
 exact qO 10 m w (by omega) (by omega)
theorem cr {n:Int} (h0:0≤n) (h1:n≤1000000000):(⟨(Lib.itoa n).toArray⟩ : ByteArray).size≤100:=by
 unfold Lib.itoa
 rw [if_neg (by omega)]
 exact qm (by omega)
end Go.Proofs.YtoeoimhemojdeaaGreatDoor
namespace Go.Proofs
open Go.Shelf
def Tryz.lays137_ren:Go.Shelf.Ren:=⟨fun | 137=>122 | 217=>168 | 266=>193 | n=>n,fun | 9=>9 | 5=>5 | 3=>3 | n=>n,fun | n=>n⟩
theorem Tryz.lays137:Go.Proofs.Lays.n137 Tryz.prog Tryz.lays137_ren:={
 mixed:=by kernel_rfl
 f137:=Tryz.func122.trans (congrArg some (by kernel_rfl))
 f217:=Tryz.func168.trans (congrArg some (by kernel_rfl))
 f266:=Tryz.func193.trans (congrArg some (by kernel_rfl))
 t3:=Tryz.underlying3
 a3:=Tryz.isAgg3
 z3:=Tryz.sizeOf3
 v3:=Tryz.zeroValue3
 t5:=Tryz.underlying5
 a5:=Tryz.isAgg5
 z5:=Tryz.sizeOf5
 v5:=Tryz.zeroValue5
 t9:=Tryz.underlying9
 a9:=Tryz.isAgg9
 z9:=Tryz.sizeOf9
 v9:=Tryz.zeroValue9 }
open Go.RowKit in
theorem Tryz.strings_IndexByte (s:ByteArray) (c:Int) (w:World) :
  Calls Tryz.prog 122 #[sQ s,.int .u8 c] w fun e w'=>e=.returned (O U (Lib.indexByte s.data.toList c.toNat.toUInt8))∧w'=w:=Any.strings_IndexByte Tryz.lays137 s c w
def Tryz.lays103_ren:Go.Shelf.Ren:=⟨fun | 103=>170 | 210=>195 | 206=>220 | n=>n,fun | 9=>9 | 4=>4 | 24=>64 | 3=>3 | n=>n,fun | n=>n⟩
theorem Tryz.lays103:Go.Proofs.Lays.n103 Tryz.prog Tryz.lays103_ren:={
 mixed:=by kernel_rfl
 f103:=Tryz.func170.trans (congrArg some (by kernel_rfl))
 f206:=Tryz.func220.trans (congrArg some (by kernel_rfl))
 f210:=Tryz.func195.trans (congrArg some (by kernel_rfl))
 t3:=Tryz.underlying3
 a3:=Tryz.isAgg3
 z3:=Tryz.sizeOf3
 v3:=Tryz.zeroValue3
 t4:=Tryz.underlying4
 a4:=Tryz.isAgg4
 z4:=Tryz.sizeOf4
 v4:=Tryz.zeroValue4
 t9:=Tryz.underlying9
 a9:=Tryz.isAgg9
 z9:=Tryz.sizeOf9
 v9:=Tryz.zeroValue9
 t24:=Tryz.underlying64
 a24:=Tryz.isAgg64
 z24:=Tryz.sizeOf64
 v24:=Tryz.zeroValue64 }
open Go.RowKit in
theorem Tryz.strings_CutPrefix (s p:ByteArray) (w:World) :
  Calls Tryz.prog 170 #[sQ s,sQ p] w fun e w'=>e=.returned (.tuple #[sQ ⟨(Lib.trimPrefix s.data.toList p.data.toList).toArray⟩,.bool (Lib.hasPrefix s.data.toList p.data.toList)])∧w'=w:=Any.strings_CutPrefix Tryz.lays103 s p w
def Tryz.laysM171_ren:Go.Shelf.Ren:=⟨fun | 171=>69 | 243=>124 | 246=>172 | 283=>197 | 284=>198 | 285=>199 | 286=>200 | 129=>222 | 317=>221 | 318=>223 | 319=>224 | 320=>225 | 337=>239 | 338=>240 | n=>n,fun | 3=>3 | 9=>9 | 2=>2 | 4=>4 | 171=>199 | 0=>0 | 53=>90 | 37=>54 | 5=>5 | 173=>202 | 212=>219 | 51=>220 | 20=>20 | 213=>221 | 46=>181 | 232=>250 | 233=>251 | n=>n,fun | 17=>1 | 18=>6 | 19=>7 | n=>n⟩
theorem Tryz.laysM171:Go.Proofs.LaysM.n171 Tryz.prog Tryz.laysM171_ren:={
 mixed:=by kernel_rfl
 f129:=Tryz.func222.trans (congrArg some (by kernel_rfl))
 f171:=Tryz.func69.trans (congrArg some (by kernel_rfl))
 f243:=Tryz.func124.trans (congrArg some (by kernel_rfl))
 f246:=Tryz.func172.trans (congrArg some (by kernel_rfl))
 f283:=Tryz.func197.trans (congrArg some (by kernel_rfl))
 f284:=Tryz.func198.trans (congrArg some (by kernel_rfl))
 f285:=Tryz.func199.trans (congrArg some (by kernel_rfl))
 f286:=Tryz.func200.trans (congrArg some (by kernel_rfl))
 f317:=Tryz.func221.trans (congrArg some (by kernel_rfl))
 f318:=Tryz.func223.trans (congrArg some (by kernel_rfl))
 f319:=Tryz.func224.trans (congrArg some (by kernel_rfl))
 f320:=Tryz.func225.trans (congrArg some (by kernel_rfl))
 f337:=Tryz.func239.trans (congrArg some (by kernel_rfl))
 f338:=Tryz.func240.trans (congrArg some (by kernel_rfl))
 t0:=Tryz.underlying0
 a0:=Tryz.isAgg0
 z0:=Tryz.sizeOf0
 v0:=Tryz.zeroValue0
 t2:=Tryz.underlying2
 a2:=Tryz.isAgg2
 z2:=Tryz.sizeOf2
 v2:=Tryz.zeroValue2
 t3:=Tryz.underlying3
 a3:=Tryz.isAgg3
 z3:=Tryz.sizeOf3
 v3:=Tryz.zeroValue3
 t4:=Tryz.underlying4
 a4:=Tryz.isAgg4
 z4:=Tryz.sizeOf4
 v4:=Tryz.zeroValue4
 t5:=Tryz.underlying5
 a5:=Tryz.isAgg5
 z5:=Tryz.sizeOf5
 v5:=Tryz.zeroValue5
 t9:=Tryz.underlying9
 a9:=Tryz.isAgg9
 z9:=Tryz.sizeOf9
 v9:=Tryz.zeroValue9
 t20:=Tryz.underlying20
 a20:=Tryz.isAgg20
 z20:=Tryz.sizeOf20
 v20:=Tryz.zeroValue20
 t37:=Tryz.underlying54
 a37:=Tryz.isAgg54
 z37:=Tryz.sizeOf54
 v37:=Tryz.zeroValue54
 t46:=Tryz.underlying181
 a46:=Tryz.isAgg181
 z46:=Tryz.sizeOf181
 v46:=Tryz.zeroValue181
 t51:=Tryz.underlying220
 a51:=Tryz.isAgg220
 z51:=Tryz.sizeOf220
 v51:=Tryz.zeroValue220
 t53:=Tryz.underlying90
 a53:=Tryz.isAgg90
 z53:=Tryz.sizeOf90
 v53:=Tryz.zeroValue90
 t171:=Tryz.underlying199
 a171:=Tryz.isAgg199
 z171:=Tryz.sizeOf199
 v171:=Tryz.zeroValue199
 t173:=Tryz.underlying202
 a173:=Tryz.isAgg202
 z173:=Tryz.sizeOf202
 v173:=Tryz.zeroValue202
 t212:=Tryz.underlying219
 a212:=Tryz.isAgg219
 z212:=Tryz.sizeOf219
 v212:=Tryz.zeroValue219
 t213:=Tryz.underlying221
 a213:=Tryz.isAgg221
 z213:=Tryz.sizeOf221
 t232:=Tryz.underlying250
 a232:=Tryz.isAgg250
 z232:=Tryz.sizeOf250
 v232:=Tryz.zeroValue250
 t233:=Tryz.underlying251
 a233:=Tryz.isAgg251
 z233:=Tryz.sizeOf251
 v233:=Tryz.zeroValue251
 g17:=by kernel_rfl
 g18:=by kernel_rfl
 g19:=by kernel_rfl
 i0:=by kernel_rfl
 i2:=by kernel_rfl
 i3:=by kernel_rfl
 i4:=by kernel_rfl
 i5:=by kernel_rfl
 i9:=by kernel_rfl
 i20:=by kernel_rfl
 i37:=by kernel_rfl
 i46:=by kernel_rfl
 i51:=by kernel_rfl
 i53:=by kernel_rfl
 i171:=by kernel_rfl
 i173:=by kernel_rfl
 i212:=by kernel_rfl
 i232:=by kernel_rfl
 i233:=by kernel_rfl
 m17:=by kernel_rfl
 m18:=by kernel_rfl
 m19:=by kernel_rfl }
open Go.RowKit Go.Sort Go.Lib in
theorem Tryz.strconv_Itoa (n : Int) (h0 : -9223372036854775808 ≤ n) (h1 : n ≤ 9223372036854775807) (w : World) (htab : Lib.TabIs Tryz.prog w "internal/strconv.uint64pow10" .u64 Lib.pow10Tab) :
  Calls Tryz.prog 69 #[O U n] w fun e w'=>e=.returned (sQ ⟨(Lib.itoa n).toArray⟩)∧∃ k os,w'=grow (w.drewN k) os:=Any.strconv_Itoa Tryz.laysM171 n h0 h1 w htab
def Tryz.laysC172_ren:Go.Shelf.Ren:=⟨fun | 172=>150 | 244=>181 | 245=>182 | 247=>206 | 279=>207 | 280=>208 | 281=>209 | 282=>210 | 287=>227 | 316=>228 | 171=>69 | 205=>229 | 321=>241 | 322=>242 | 243=>124 | 246=>172 | 283=>197 | 284=>198 | 285=>199 | 286=>200 | 129=>222 | 317=>221 | 318=>223 | 319=>224 | 320=>225 | 337=>239 | 338=>240 | n=>n,fun | 9=>9 | 3=>3 | 75=>173 | 76=>174 | 4=>4 | 5=>5 | 167=>206 | 37=>54 | 0=>0 | 85=>207 | 2=>2 | 168=>209 | 53=>90 | 175=>225 | 46=>181 | 210=>228 | 127=>245 | 145=>248 | 143=>246 | 21=>21 | 171=>199 | 173=>202 | 212=>219 | 51=>220 | 20=>20 | 213=>221 | 232=>250 | 233=>251 | 80=>234 | n=>n,fun | 15=>2 | 16=>3 | 17=>1 | 18=>6 | 19=>7 | n=>n⟩
theorem Tryz.laysC172:Go.Proofs.LaysC.n172 Tryz.prog Tryz.laysC172_ren:={
 mixed:=by kernel_rfl
 f129:=Tryz.func222.trans (congrArg some (by kernel_rfl))
 f171:=Tryz.func69.trans (congrArg some (by kernel_rfl))
 f172:=Tryz.func150.trans (congrArg some (by kernel_rfl))
 f205:=Tryz.func229.trans (congrArg some (by kernel_rfl))
 f243:=Tryz.func124.trans (congrArg some (by kernel_rfl))
 f244:=Tryz.func181.trans (congrArg some (by kernel_rfl))
 f245:=Tryz.func182.trans (congrArg some (by kernel_rfl))
 f246:=Tryz.func172.trans (congrArg some (by kernel_rfl))
 f247:=Tryz.func206.trans (congrArg some (by kernel_rfl))
 f279:=Tryz.func207.trans (congrArg some (by kernel_rfl))
 f280:=Tryz.func208.trans (congrArg some (by kernel_rfl))
 f281:=Tryz.func209.trans (congrArg some (by kernel_rfl))
 f282:=Tryz.func210.trans (congrArg some (by kernel_rfl))
 f283:=Tryz.func197.trans (congrArg some (by kernel_rfl))
 f284:=Tryz.func198.trans (congrArg some (by kernel_rfl))
 f285:=Tryz.func199.trans (congrArg some (by kernel_rfl))
 f286:=Tryz.func200.trans (congrArg some (by kernel_rfl))
 f287:=Tryz.func227.trans (congrArg some (by kernel_rfl))
 f316:=Tryz.func228.trans (congrArg some (by kernel_rfl))
 f317:=Tryz.func221.trans (congrArg some (by kernel_rfl))
 f318:=Tryz.func223.trans (congrArg some (by kernel_rfl))
 f319:=Tryz.func224.trans (congrArg some (by kernel_rfl))
 f320:=Tryz.func225.trans (congrArg some (by kernel_rfl))
 f321:=Tryz.func241.trans (congrArg some (by kernel_rfl))
 f322:=Tryz.func242.trans (congrArg some (by kernel_rfl))
 f337:=Tryz.func239.trans (congrArg some (by kernel_rfl))
 f338:=Tryz.func240.trans (congrArg some (by kernel_rfl))
 t0:=Tryz.underlying0
 a0:=Tryz.isAgg0
 z0:=Tryz.sizeOf0
 v0:=Tryz.zeroValue0
 t2:=Tryz.underlying2
 a2:=Tryz.isAgg2
 z2:=Tryz.sizeOf2
 v2:=Tryz.zeroValue2
 t3:=Tryz.underlying3
 a3:=Tryz.isAgg3
 z3:=Tryz.sizeOf3
 v3:=Tryz.zeroValue3
 t4:=Tryz.underlying4
 a4:=Tryz.isAgg4
 z4:=Tryz.sizeOf4
 v4:=Tryz.zeroValue4
 t5:=Tryz.underlying5
 a5:=Tryz.isAgg5
 z5:=Tryz.sizeOf5
 v5:=Tryz.zeroValue5
 t9:=Tryz.underlying9
 a9:=Tryz.isAgg9
 z9:=Tryz.sizeOf9
 v9:=Tryz.zeroValue9
 t20:=Tryz.underlying20
 a20:=Tryz.isAgg20
 z20:=Tryz.sizeOf20
 v20:=Tryz.zeroValue20
 t21:=Tryz.underlying21
 a21:=Tryz.isAgg21
 z21:=Tryz.sizeOf21
 v21:=Tryz.zeroValue21
 t37:=Tryz.underlying54
 a37:=Tryz.isAgg54
 z37:=Tryz.sizeOf54
 v37:=Tryz.zeroValue54
 t46:=Tryz.underlying181
 a46:=Tryz.isAgg181
 z46:=Tryz.sizeOf181
 v46:=Tryz.zeroValue181
 t51:=Tryz.underlying220
 a51:=Tryz.isAgg220
 z51:=Tryz.sizeOf220
 v51:=Tryz.zeroValue220
 t53:=Tryz.underlying90
 a53:=Tryz.isAgg90
 z53:=Tryz.sizeOf90
 v53:=Tryz.zeroValue90
 t75:=Tryz.underlying173
 a75:=Tryz.isAgg173
 z75:=Tryz.sizeOf173
 v75:=Tryz.zeroValue173
 t76:=Tryz.underlying174
 a76:=Tryz.isAgg174
 z76:=Tryz.sizeOf174
 v76:=Tryz.zeroValue174
 t85:=Tryz.underlying207
 a85:=Tryz.isAgg207
 z85:=Tryz.sizeOf207
 v85:=Tryz.zeroValue207
 t127:=Tryz.underlying245
 a127:=Tryz.isAgg245
 z127:=Tryz.sizeOf245
 v127:=Tryz.zeroValue245
 t143:=Tryz.underlying246
 a143:=Tryz.isAgg246
 z143:=Tryz.sizeOf246
 v143:=Tryz.zeroValue246
 t145:=Tryz.underlying248
 a145:=Tryz.isAgg248
 z145:=Tryz.sizeOf248
 v145:=Tryz.zeroValue248
 t167:=Tryz.underlying206
 a167:=Tryz.isAgg206
 z167:=Tryz.sizeOf206
 v167:=Tryz.zeroValue206
 t168:=Tryz.underlying209
 a168:=Tryz.isAgg209
 z168:=Tryz.sizeOf209
 v168:=Tryz.zeroValue209
 t171:=Tryz.underlying199
 a171:=Tryz.isAgg199
 z171:=Tryz.sizeOf199
 v171:=Tryz.zeroValue199
 t173:=Tryz.underlying202
 a173:=Tryz.isAgg202
 z173:=Tryz.sizeOf202
 v173:=Tryz.zeroValue202
 t175:=Tryz.underlying225
 a175:=Tryz.isAgg225
 z175:=Tryz.sizeOf225
 v175:=Tryz.zeroValue225
 t210:=Tryz.underlying228
 a210:=Tryz.isAgg228
 z210:=Tryz.sizeOf228
 v210:=Tryz.zeroValue228
 t212:=Tryz.underlying219
 a212:=Tryz.isAgg219
 z212:=Tryz.sizeOf219
 v212:=Tryz.zeroValue219
 t213:=Tryz.underlying221
 a213:=Tryz.isAgg221
 z213:=Tryz.sizeOf221
 t232:=Tryz.underlying250
 a232:=Tryz.isAgg250
 z232:=Tryz.sizeOf250
 v232:=Tryz.zeroValue250
 t233:=Tryz.underlying251
 a233:=Tryz.isAgg251
 z233:=Tryz.sizeOf251
 v233:=Tryz.zeroValue251
 g15:=by kernel_rfl
 g16:=by kernel_rfl
 g17:=by kernel_rfl
 g18:=by kernel_rfl
 g19:=by kernel_rfl
 t80:=Tryz.underlying234
 a80:=Tryz.isAgg234
 z80:=Tryz.sizeOf234
 v80:=Tryz.zeroValue234
 i0:=by kernel_rfl
 i2:=by kernel_rfl
 i3:=by kernel_rfl
 i4:=by kernel_rfl
 i5:=by kernel_rfl
 i9:=by kernel_rfl
 i20:=by kernel_rfl
 i21:=by kernel_rfl
 i37:=by kernel_rfl
 i46:=by kernel_rfl
 i51:=by kernel_rfl
 i53:=by kernel_rfl
 i75:=by kernel_rfl
 i76:=by kernel_rfl
 i80:=by kernel_rfl
 i85:=by kernel_rfl
 i127:=by kernel_rfl
 i143:=by kernel_rfl
 i145:=by kernel_rfl
 i167:=by kernel_rfl
 i168:=by kernel_rfl
 i171:=by kernel_rfl
 i173:=by kernel_rfl
 i175:=by kernel_rfl
 i210:=by kernel_rfl
 i212:=by kernel_rfl
 i232:=by kernel_rfl
 i233:=by kernel_rfl
 m15:=by kernel_rfl
 m16:=by kernel_rfl
 m17:=by kernel_rfl
 m18:=by kernel_rfl
 m19:=by kernel_rfl
 c0:=by kernel_rfl
 c2:=by kernel_rfl
 c3:=by kernel_rfl
 c4:=by kernel_rfl
 c5:=by kernel_rfl
 c9:=by kernel_rfl
 c20:=by kernel_rfl
 c21:=by kernel_rfl
 c37:=by kernel_rfl
 c46:=by kernel_rfl
 c51:=by kernel_rfl
 c53:=by kernel_rfl
 c75:=by kernel_rfl
 c76:=by kernel_rfl
 c80:=by kernel_rfl
 c85:=by kernel_rfl
 c127:=by kernel_rfl
 c143:=by kernel_rfl
 c145:=by kernel_rfl
 c167:=by kernel_rfl
 c168:=by kernel_rfl
 c171:=by kernel_rfl
 c173:=by kernel_rfl
 c175:=by kernel_rfl
 c210:=by kernel_rfl
 c212:=by kernel_rfl
 c213:=by kernel_rfl
 c232:=by kernel_rfl
 c233:=by kernel_rfl }
open Go.RowKit in
theorem Tryz.strconv_Atoi_ok (s:ByteArray) (hmax:s.size≤9223372036854775806) (v:Int) (h:Lib.atoiAll s.data.toList=.ok v) (w:World) :
  Calls Tryz.prog 150 #[sQ s] w fun e w'=>e=.returned (.tuple #[O U v,.nilIface])∧(w'=w ∨ ∃ t,w'=Lib.bytesWorld w 5 t):=Any.strconv_Atoi_ok Tryz.laysC172 s hmax v h w
open Go.RowKit in
theorem Tryz.strconv_Atoi_syntax (s:ByteArray) (hlim:s.size≤281474976710656) (h:Lib.atoiAll s.data.toList=Lib.atoiAll []) (ev:Value) (w:World) (hv:w.cell? ⟨2,0,none⟩=some ev) (hev:ev=.nilIface ∨ ∃ te pe,ev=.iface te pe) :
  Calls Tryz.prog 150 #[sQ s] w fun e w'=>∃ N,e=.returned (.tuple #[O U (0),.iface 209 (.pointer (some ⟨N,0,none⟩))])∧w.heap.size≤N∧w'.heap[N]?=some (.cells #[sQ ⟨#[65,116,111,105]⟩,sQ s,ev] 228 (0,0))∧Below w.heap.size w w':=Any.strconv_Atoi_syntax Tryz.laysC172 s hlim (h.trans rfl) ev w hv hev
open Go.RowKit in
theorem Tryz.strconv_Atoi_range (s:ByteArray) (hlim:s.size≤281474976710656) (h:Lib.atoiAll s.data.toList=.range) (ev:Value) (w:World) (hv:w.cell? ⟨3,0,none⟩=some ev) (hev:ev=.nilIface ∨ ∃ te pe,ev=.iface te pe) :
  Calls Tryz.prog 150 #[sQ s] w fun e w'=>∃ N,e=.returned (.tuple #[O U (Lib.atoiSat s.data.toList),.iface 209 (.pointer (some ⟨N,0,none⟩))])∧w.heap.size≤N∧w'.heap[N]?=some (.cells #[sQ ⟨#[65,116,111,105]⟩,sQ s,ev] 228 (0,0))∧Below w.heap.size w w':=Any.strconv_Atoi_range Tryz.laysC172 s hlim h ev w hv hev
def Tryz.lays219_ren:Go.Shelf.Ren:=⟨fun | 219=>180 | 217=>168 | 225=>203 | 224=>204 | 267=>205 | 266=>193 | 314=>226 | n=>n,fun | 9=>9 | 3=>3 | 4=>4 | 5=>5 | 46=>181 | 146=>223 | 51=>220 | n=>n,fun | 1=>0 | n=>n⟩
theorem Tryz.lays219:Go.Proofs.Lays.n219 Tryz.prog Tryz.lays219_ren:={
 mixed:=by kernel_rfl
 f217:=Tryz.func168.trans (congrArg some (by kernel_rfl))
 f219:=Tryz.func180.trans (congrArg some (by kernel_rfl))
 f224:=Tryz.func204.trans (congrArg some (by kernel_rfl))
 f225:=Tryz.func203.trans (congrArg some (by kernel_rfl))
 f266:=Tryz.func193.trans (congrArg some (by kernel_rfl))
 f267:=Tryz.func205.trans (congrArg some (by kernel_rfl))
 f314:=Tryz.func226.trans (congrArg some (by kernel_rfl))
 t3:=Tryz.underlying3
 a3:=Tryz.isAgg3
 z3:=Tryz.sizeOf3
 v3:=Tryz.zeroValue3
 t4:=Tryz.underlying4
 a4:=Tryz.isAgg4
 z4:=Tryz.sizeOf4
 v4:=Tryz.zeroValue4
 t5:=Tryz.underlying5
 a5:=Tryz.isAgg5
 z5:=Tryz.sizeOf5
 v5:=Tryz.zeroValue5
 t9:=Tryz.underlying9
 a9:=Tryz.isAgg9
 z9:=Tryz.sizeOf9
 v9:=Tryz.zeroValue9
 t46:=Tryz.underlying181
 a46:=Tryz.isAgg181
 z46:=Tryz.sizeOf181
 v46:=Tryz.zeroValue181
 t51:=Tryz.underlying220
 a51:=Tryz.isAgg220
 z51:=Tryz.sizeOf220
 v51:=Tryz.zeroValue220
 t146:=Tryz.underlying223
 a146:=Tryz.isAgg223
 z146:=Tryz.sizeOf223
 v146:=Tryz.zeroValue223
 g1:=by kernel_rfl }
open Go.RowKit Go.Lib in
theorem Tryz.stringslite_Index_one (s:ByteArray) (c:UInt8) (w:World) :
  Calls Tryz.prog 180 #[sQ s,sQ ⟨#[c]⟩] w fun e w'=>e=.returned (O U (Lib.indexByte s.data.toList c))∧w'=w:=Any.stringslite_Index_one Tryz.lays219 s c w
def Tryz.lays144_ren:Go.Shelf.Ren:=⟨fun | 144=>95 | 143=>149 | 219=>180 | 217=>168 | 225=>203 | 224=>204 | 267=>205 | 266=>193 | 314=>226 | n=>n,fun | 9=>9 | 4=>4 | 3=>3 | 5=>5 | 46=>181 | 146=>223 | 51=>220 | n=>n,fun | 1=>0 | n=>n⟩
theorem Tryz.lays144:Go.Proofs.Lays.n144 Tryz.prog Tryz.lays144_ren:={
 mixed:=by kernel_rfl
 f143:=Tryz.func149.trans (congrArg some (by kernel_rfl))
 f144:=Tryz.func95.trans (congrArg some (by kernel_rfl))
 f217:=Tryz.func168.trans (congrArg some (by kernel_rfl))
 f219:=Tryz.func180.trans (congrArg some (by kernel_rfl))
 f224:=Tryz.func204.trans (congrArg some (by kernel_rfl))
 f225:=Tryz.func203.trans (congrArg some (by kernel_rfl))
 f266:=Tryz.func193.trans (congrArg some (by kernel_rfl))
 f267:=Tryz.func205.trans (congrArg some (by kernel_rfl))
 f314:=Tryz.func226.trans (congrArg some (by kernel_rfl))
 t3:=Tryz.underlying3
 a3:=Tryz.isAgg3
 z3:=Tryz.sizeOf3
 v3:=Tryz.zeroValue3
 t4:=Tryz.underlying4
 a4:=Tryz.isAgg4
 z4:=Tryz.sizeOf4
 v4:=Tryz.zeroValue4
 t5:=Tryz.underlying5
 a5:=Tryz.isAgg5
 z5:=Tryz.sizeOf5
 v5:=Tryz.zeroValue5
 t9:=Tryz.underlying9
 a9:=Tryz.isAgg9
 z9:=Tryz.sizeOf9
 v9:=Tryz.zeroValue9
 t46:=Tryz.underlying181
 a46:=Tryz.isAgg181
 z46:=Tryz.sizeOf181
 v46:=Tryz.zeroValue181
 t51:=Tryz.underlying220
 a51:=Tryz.isAgg220
 z51:=Tryz.sizeOf220
 v51:=Tryz.zeroValue220
 t146:=Tryz.underlying223
 a146:=Tryz.isAgg223
 z146:=Tryz.sizeOf223
 v146:=Tryz.zeroValue223
 g1:=by kernel_rfl }
open Go.RowKit Go.Lib in
theorem Tryz.strings_Contains_one (s:ByteArray) (c:UInt8) (w:World) :
  Calls Tryz.prog 95 #[sQ s,sQ ⟨#[c]⟩] w fun e w'=>e=.returned (.bool (decide (0≤Lib.indexByte s.data.toList c)))∧w'=w:=Any.strings_Contains_one Tryz.lays144 s c w
def Tryz.lays148_ren:Go.Shelf.Ren:=⟨fun | 148=>194 | 222=>218 | 223=>219 | 269=>238 | n=>n,fun | 9=>9 | 3=>3 | 4=>4 | 5=>5 | 146=>223 | 51=>220 | 46=>181 | n=>n,fun | n=>n⟩
theorem Tryz.lays148:Go.Proofs.Lays.n148 Tryz.prog Tryz.lays148_ren:={
 mixed:=by kernel_rfl
 f148:=Tryz.func194.trans (congrArg some (by kernel_rfl))
 f222:=Tryz.func218.trans (congrArg some (by kernel_rfl))
 f223:=Tryz.func219.trans (congrArg some (by kernel_rfl))
 f269:=Tryz.func238.trans (congrArg some (by kernel_rfl))
 t3:=Tryz.underlying3
 a3:=Tryz.isAgg3
 z3:=Tryz.sizeOf3
 v3:=Tryz.zeroValue3
 t4:=Tryz.underlying4
 a4:=Tryz.isAgg4
 z4:=Tryz.sizeOf4
 v4:=Tryz.zeroValue4
 t5:=Tryz.underlying5
 a5:=Tryz.isAgg5
 z5:=Tryz.sizeOf5
 v5:=Tryz.zeroValue5
 t9:=Tryz.underlying9
 a9:=Tryz.isAgg9
 z9:=Tryz.sizeOf9
 v9:=Tryz.zeroValue9
 t46:=Tryz.underlying181
 a46:=Tryz.isAgg181
 z46:=Tryz.sizeOf181
 v46:=Tryz.zeroValue181
 t51:=Tryz.underlying220
 a51:=Tryz.isAgg220
 z51:=Tryz.sizeOf220
 v51:=Tryz.zeroValue220
 t146:=Tryz.underlying223
 a146:=Tryz.isAgg223
 z146:=Tryz.sizeOf223
 v146:=Tryz.zeroValue223 }
open Go.RowKit Go.Lib in
theorem Tryz.strings_LastIndex (s sub:ByteArray) (hs:s.size < 4611686018427387904) (w:World) :
  Calls Tryz.prog 194 #[sQ s,sQ sub] w fun e w'=>e=.returned (O U (Lib.lastIndex s.data.toList sub.data.toList))∧w'=w:=Any.strings_LastIndex Tryz.lays148 s sub hs w
def Tryz.lays146_ren:Go.Shelf.Ren:=⟨fun | 146=>59 | 221=>107 | 268=>161 | 138=>162 | 143=>149 | 195=>188 | 197=>189 | 218=>190 | 219=>180 | 260=>217 | 217=>168 | 225=>203 | 224=>204 | 267=>205 | 266=>193 | 314=>226 | n=>n,fun | 9=>9 | 31=>49 | 3=>3 | 4=>4 | 0=>0 | 105=>195 | 21=>21 | 5=>5 | 46=>181 | 119=>239 | 139=>242 | 138=>241 | 146=>223 | 51=>220 | n=>n,fun | 1=>0 | 3=>4 | 4=>5 | n=>n⟩
theorem Tryz.lays146:Go.Proofs.Lays.n146 Tryz.prog Tryz.lays146_ren:={
 mixed:=by kernel_rfl
 f138:=Tryz.func162.trans (congrArg some (by kernel_rfl))
 f143:=Tryz.func149.trans (congrArg some (by kernel_rfl))
 f146:=Tryz.func59.trans (congrArg some (by kernel_rfl))
 f195:=Tryz.func188.trans (congrArg some (by kernel_rfl))
 f197:=Tryz.func189.trans (congrArg some (by kernel_rfl))
 f217:=Tryz.func168.trans (congrArg some (by kernel_rfl))
 f218:=Tryz.func190.trans (congrArg some (by kernel_rfl))
 f219:=Tryz.func180.trans (congrArg some (by kernel_rfl))
 f221:=Tryz.func107.trans (congrArg some (by kernel_rfl))
 f224:=Tryz.func204.trans (congrArg some (by kernel_rfl))
 f225:=Tryz.func203.trans (congrArg some (by kernel_rfl))
 f260:=Tryz.func217.trans (congrArg some (by kernel_rfl))
 f266:=Tryz.func193.trans (congrArg some (by kernel_rfl))
 f267:=Tryz.func205.trans (congrArg some (by kernel_rfl))
 f268:=Tryz.func161.trans (congrArg some (by kernel_rfl))
 f314:=Tryz.func226.trans (congrArg some (by kernel_rfl))
 t0:=Tryz.underlying0
 a0:=Tryz.isAgg0
 z0:=Tryz.sizeOf0
 v0:=Tryz.zeroValue0
 t3:=Tryz.underlying3
 a3:=Tryz.isAgg3
 z3:=Tryz.sizeOf3
 v3:=Tryz.zeroValue3
 t4:=Tryz.underlying4
 a4:=Tryz.isAgg4
 z4:=Tryz.sizeOf4
 v4:=Tryz.zeroValue4
 t5:=Tryz.underlying5
 a5:=Tryz.isAgg5
 z5:=Tryz.sizeOf5
 v5:=Tryz.zeroValue5
 t9:=Tryz.underlying9
 a9:=Tryz.isAgg9
 z9:=Tryz.sizeOf9
 v9:=Tryz.zeroValue9
 t21:=Tryz.underlying21
 a21:=Tryz.isAgg21
 z21:=Tryz.sizeOf21
 v21:=Tryz.zeroValue21
 t31:=Tryz.underlying49
 a31:=Tryz.isAgg49
 z31:=Tryz.sizeOf49
 v31:=Tryz.zeroValue49
 t46:=Tryz.underlying181
 a46:=Tryz.isAgg181
 z46:=Tryz.sizeOf181
 v46:=Tryz.zeroValue181
 t51:=Tryz.underlying220
 a51:=Tryz.isAgg220
 z51:=Tryz.sizeOf220
 v51:=Tryz.zeroValue220
 t105:=Tryz.underlying195
 a105:=Tryz.isAgg195
 z105:=Tryz.sizeOf195
 v105:=Tryz.zeroValue195
 t119:=Tryz.underlying239
 a119:=Tryz.isAgg239
 z119:=Tryz.sizeOf239
 t138:=Tryz.underlying241
 a138:=Tryz.isAgg241
 z138:=Tryz.sizeOf241
 v138:=Tryz.zeroValue241
 t139:=Tryz.underlying242
 a139:=Tryz.isAgg242
 z139:=Tryz.sizeOf242
 v139:=Tryz.zeroValue242
 t146:=Tryz.underlying223
 a146:=Tryz.isAgg223
 z146:=Tryz.sizeOf223
 v146:=Tryz.zeroValue223
 g1:=by kernel_rfl
 g3:=by kernel_rfl
 g4:=by kernel_rfl }
open Go.RowKit Go.Lib in
theorem Tryz.strings_Split (s sep:ByteArray) (m:Int) (w:World) (hs:s.size < 4294967281) (hm:w.cell? ⟨0,0,none⟩=some (O U m)) (h1:1≤sep.size) :
  Calls Tryz.prog 59 #[sQ s,sQ sep] w fun e w' =>
   e=.returned (F (some ⟨w.heap.size,0,none⟩) (Lib.countB s sep+1) (Lib.countB s sep+1))∧w'=w.alloc (.cells ((Lib.splitB sep 0 (Lib.countB s sep) s).map Value.string).toArray 9):=Any.strings_Split Tryz.lays146 (by kernel_rfl) s sep m w hs hm h1
def Tryz.lays107_ren:Go.Shelf.Ren:=⟨fun | 107=>78 | 108=>129 | n=>n,fun | 28=>100 | 3=>3 | 4=>4 | 0=>0 | n=>n,fun | n=>n⟩
theorem Tryz.lays107:Go.Proofs.Lays.n107 Tryz.prog Tryz.lays107_ren:={
 mixed:=by kernel_rfl
 f107:=Tryz.func78.trans (congrArg some (by kernel_rfl))
 f108:=Tryz.func129.trans (congrArg some (by kernel_rfl))
 t0:=Tryz.underlying0
 a0:=Tryz.isAgg0
 z0:=Tryz.sizeOf0
 v0:=Tryz.zeroValue0
 t3:=Tryz.underlying3
 a3:=Tryz.isAgg3
 z3:=Tryz.sizeOf3
 v3:=Tryz.zeroValue3
 t4:=Tryz.underlying4
 a4:=Tryz.isAgg4
 z4:=Tryz.sizeOf4
 v4:=Tryz.zeroValue4
 t28:=Tryz.underlying100
 a28:=Tryz.isAgg100
 z28:=Tryz.sizeOf100
 v28:=Tryz.zeroValue100 }
open Go.Lib in
theorem Tryz.slices_Contains_int (b off n c:Nat) (zs:List Int) (x:Int) (w:World) (hz:n≤zs.length) (hbig:n≤9223372036854775807) (hc:∀ j,j < zs.length→w.cell? ⟨b,off+j,none⟩=some (O U (zs.getD j 0))) :
  Calls Tryz.prog 78 #[F (some ⟨b,off,none⟩) n c,O U x] w fun e w'=>e=.returned (.bool ((zs.take n).contains x))∧w'=w:=Any.slices_Contains_int Tryz.lays107 b off n c zs x w hz hbig hc
end Go.Proofs
namespace Go.Proofs.YtoeoimhemojdeaaGreatDoor
open Go.RowKit
theorem pz (w:World) (k:Nat) (os:Array Obj):Below w.heap.size w (Sort.grow (w.drewN k) os):=by
 have h1:Below w.heap.size w (w.drewN k):=below_drewN (Below.refl _ _) k
 refine h1.trans ⟨rfl,rfl,rfl,by simp [Sort.grow],fun i hi=>?_⟩
 have hs:(w.drewN k).heap=w.heap:=by simp
 simp only [Sort.grow]
 rw [Array.getElem?_append_left (by rw [hs]; exact hi)]
abbrev hU (w : World) : Prop := Lib.TabBelow Tryz.prog w.heap.size w "internal/strconv.uint64pow10" .u64 Lib.pow10Tab
theorem hU.is {w : World} (h : hU w) : Lib.TabIs Tryz.prog w "internal/strconv.uint64pow10" .u64 Lib.pow10Tab := h w (Below.refl _ _)
theorem hU.then {w w' : World} (h:hU w) (hb:Below w.heap.size w w'):hU w':=fun w'' h''=>h w'' (hb.trans (h''.mono hb.size))
theorem hU.at {w:World} (h:hU w) (q:ao w.heap.size w):hU q.val:=h.then q.below
theorem cu (n:Int) (w:World) (h0 : -9223372036854775808≤n) (h1:n≤9223372036854775807) (ht:hU w) :
  Calls Tryz.prog 69 #[O U n] w fun e w'=>e=.returned (sQ ⟨(Lib.itoa n).toArray⟩)∧Below w.heap.size w w' :=
 (Tryz.strconv_Itoa n h0 h1 w ht.is).mono fun e w' ⟨he,k,os,hw⟩=>⟨he,by rw [hw]; exact pz w k os⟩
abbrev bi (k:Int):ae→Bool:=fun o=>decide (o.k=k)
def pb (c o:ByteArray):ByteArray:=c++⟨#[32,105,110,32]⟩++o++⟨#[32,111,117,116]⟩
abbrev bu (n:Int):ByteArray:=⟨(Lib.itoa n).toArray⟩
def lW (x:aM) (kd:Int):ByteArray:=pb (bu (x.t.getD (av x.t kd).toNat default).c) (bu (aS (bi kd) x.o))
def dP (x:aM) (kd:Int):ByteArray:=if am x && aN x.t kd then lW x kd else ⟨#[]⟩
theorem lX {α:Type} (f:α→Bool):∀ (l:List α) (k:Nat) (i:Nat),bg f k l=(i:Int)→k≤i∧∃ h:i - k < l.length,f l[i - k]=true
 | [],k,i,h=>by simp [bg] at h
 | x :: l,k,i,h=>by
  rw [bg] at h
  split at h
  ·rename_i hx
   obtain rfl:k=i:=by omega
   exact ⟨Nat.le_refl _,by simp,by simpa using hx⟩
  ·obtain ⟨h1,h2,h3⟩:=lX f l (k+1) i h
   refine ⟨by omega,by simp; omega, ?_⟩
   have e:i - k=(i - (k+1))+1:=by omega
   simp only [e,List.getElem_cons_succ]
   exact h3
theorem fQ {ts:List aq} {kd:Int} {i:Nat} (h:av ts kd=i):∃ hi:i < ts.length,ts[i].k=kd:=by
 obtain ⟨_,h2,h3⟩:=lX _ ts 0 i h
 simp only [Nat.sub_zero] at h2 h3
 exact ⟨h2,of_decide_eq_true h3⟩
theorem fo {ts:List aq} {kd:Int} (h:0≤av ts kd):∃ i:Nat,av ts kd=i:=⟨(av ts kd).toNat,by omega⟩
set_option maxRecDepth 100000 in
set_option maxHeartbeats 2000000 in
theorem oC (x:aM) (i:Nat) (kd:Int) (w:World) (h:aQ w w.heap.size x) (G:bn x) (hi:i < x.t.length) (hk:x.t[i].k=kd) :
  Calls Tryz.prog 72 #[x.val,O U i] w fun e w'=>e=.returned (sQ (pb (bu x.t[i].c) (bu (aS (bi kd) x.o))))∧Below w.heap.size w w':=by
 have hb0:=(Below.refl w.heap.size w).alloc (Nat.le_refl _) (.cells #[F x.TA x.t.length x.tc,F x.OA x.o.length x.oc,O U x.got,O U x.sold,O U x.missed] 40)
 have hS:=lM.of (x:=x) (ai.new w 40 #[F x.TA x.t.length x.tc,F x.OA x.o.length x.oc,O U x.got,O U x.sold,O U x.missed])
 have hR:=h.up hb0 (Nat.le_refl _)
 have HO:=Lib.hid G.oall
 have ol:=G.ol
 have tl:=G.tl
 have htb:=(aq.bounds (G.tall i hi)).2
 have hob:=eI (bi kd) x.t x.o 0 G.oall
 change 0≤aS (bi kd) x.o∧aS (bi kd) x.o≤_ at hob
 have HF:Hid (bj (bi kd) 0 (x.o.drop 0)=aS (bi kd) x.o):=rfl
 have HT:Hid (pb (bu x.t[i].c) (bu (aS (bi kd) x.o))=bu x.t[i].c++⟨#[32,105,110,32]⟩++bu (aS (bi kd) x.o)++⟨#[32,111,117,116]⟩):=rfl
 obtain ⟨tr,htr⟩ : ∃ tr,x.t[i]=tr:=⟨_,rfl⟩
 rw [htr] at hk htb HT ⊢
 go_enter Tryz.func72,Tryz.ntmps72
 go_wp2
 generalize w.alloc (.cells #[F x.TA x.t.length x.tc,F x.OA x.o.length x.oc,O U x.got,O U x.sold,O U x.missed] 40)=W at hb0 hS hR ⊢
 obtain ⟨s0,s1,s2,s3,s4⟩:=hS
 obtain ⟨bt,ot,hTA,_,htc⟩:=hR.ts.el (by omega)
 obtain ⟨t0,t1⟩:=htc i hi
 have hro:=hR.os.el
 simp only [hTA] at s0
 rw [htr] at t0 t1
 clear htc hTA htr
 subst hk
 obtain ⟨htb1,htb2⟩:=htb
 obtain ⟨hob1,hob2⟩:=hob
 have hz0:(0:Int)≤(i:Int):=by omega
 have hii:(i:Int) < (x.t.length:Int):=by omega
 go_loopw [5,6] (fun s k wr=>∃ (j:Nat) (u:Int),j≤x.o.length∧k=O U j∧s=O U u∧(0≤u∧u≤9999 * (j:Int))∧(∃ q:ao W.heap.size W,wr=q.val)∧Hid (bj (bi tr.k) u (x.o.drop j)=aS (bi tr.k) x.o)) (fun _ k _=>x.o.length - (intOf k).toNat)
 case atStart=>exact ⟨0,0,Nat.zero_le _,rfl,rfl,by omega,⟨ao.start _ _,rfl⟩,HF⟩
 case round =>
  obtain ⟨j,u,hj,rfl,rfl,⟨u0,u1⟩,⟨p,rfl⟩,HU⟩:=hrel
  by_cases hlj:j < x.o.length
  ·obtain ⟨b,off,hA,hb,hcell⟩:=hro (by omega)
   obtain ⟨e0,e1,e2⟩:=hcell j hlj
   obtain ⟨_,_,x1,x2⟩:=ae.bounds (HO.out j hlj)
   have HS:Hid (bj (bi tr.k) u (x.o.drop j)=bj (bi tr.k) (if bi tr.k x.o[j] then u+x.o[j].c else u) (x.o.drop (j+1))):=jE (f:=bi tr.k) hlj u
   obtain ⟨r,hre⟩ : ∃ r,r=x.o[j]:=⟨_,rfl⟩
   rw [← hre] at e0 e1 e2 HS x1 x2
   simp only [hA] at s1
   clear hre hcell hro hA
   by_cases hz:r.k=tr.k
   ·have hv:(r.k == tr.k)=true:=by simp [hz]
    have HE:Hid (bj (bi tr.k) (u+r.c) (x.o.drop (j+1))=aS (bi tr.k) x.o):=by
     have h1:=HU.out; rw [HS.out,show bi tr.k r=true from decide_eq_true hz,if_pos rfl] at h1; exact h1
    clear hz HS
    go_wp2
    refine bc _ (by kernel_rfl) (by kernel_rfl) ?_
    repeat (any_goals (first | go_big_quiet_step ((fail)) | (refine wpQuiet_step (fun K hK=>?_); go_simp; split <;> (refine hK _ ?_; clear hK K))))
    all_goals (refine wpQuiet_nil ?_; rintro _ ⟨q1,rfl⟩)
    all_goals go_wp2
    go_roundw
    case rel=>exact ⟨j+1,u+r.c,by omega,by go_num,rfl,by omega,⟨q1,rfl⟩,HE⟩
    case measure=>simp [intOf]; omega
   ·have hv:(r.k == tr.k)=false:=by simp [hz]
    have HE:Hid (bj (bi tr.k) u (x.o.drop (j+1))=aS (bi tr.k) x.o):=by
     have h1:=HU.out; rw [HS.out,show bi tr.k r=false from decide_eq_false hz,if_neg (by simp)] at h1; exact h1
    clear hz HS
    go_wp2
    refine bc _ (by kernel_rfl) (by kernel_rfl) ?_
    repeat (any_goals (first | go_big_quiet_step ((fail)) | (refine wpQuiet_step (fun K hK=>?_); go_simp; split <;> (refine hK _ ?_; clear hK K))))
    all_goals (refine wpQuiet_nil ?_; rintro _ ⟨q1,rfl⟩)
    all_goals go_wp2
    go_roundw
    case rel=>exact ⟨j+1,u,by omega,by go_num,rfl,by omega,⟨q1,rfl⟩,HE⟩
    case measure=>simp [intOf]; omega
  ·have HE2:Hid (u=aS (bi tr.k) x.o):=by
    have h1:=HU.out; rw [List.drop_eq_nil_of_le (by omega)] at h1; exact h1
   have z1:=cr htb1 (by omega:tr.c≤1000000000)
   have z2:=cr u0 (by omega:u≤1000000000)
   obtain ⟨SA,hSA⟩ : ∃ SA,bu tr.c=SA:=⟨_,rfl⟩
   obtain ⟨SB,hSB⟩ : ∃ SB,bu u=SB:=⟨_,rfl⟩
   have cA:∀ W,Calls Tryz.prog 71 #[O U tr.c] W fun e w'=>e=.returned (sQ SA)∧Below W.heap.size W w':=fun W=>by rw [← hSA]; exact cl tr.c W htb1 (by omega)
   have cB:∀ W,Calls Tryz.prog 71 #[O U u] W fun e w'=>e=.returned (sQ SB)∧Below W.heap.size W w':=fun W=>by rw [← hSB]; exact cl u W u0 (by omega)
   have z1' : SA.size≤100:=by rw [← hSA]; exact z1
   have z2' : SB.size≤100:=by rw [← hSB]; exact z2
   have HA:=Lib.hid hSA
   have HB:=Lib.hid hSB
   clear hro hSA hSB z1 z2
   go_wp2_with fail
   refine (cA _).mono ?_
   rintro e w1 ⟨rfl,hb1⟩
   go_wp2_with fail
   refine (cB _).mono ?_
   rintro e w2 ⟨rfl,hb2⟩
   go_wp2
   go_ret
   exact ⟨by rw [HT.out,← HE2.out,HA.out,HB.out]; rfl,ar (ar (ar hb0 p.below) hb1) hb2⟩
theorem jU {x:aM} {kd:Int} (h:(am x && aN x.t kd)=false):dP x kd=⟨#[]⟩:=by unfold dP; rw [h]; rfl
theorem iZ {x:aM} {kd:Int} {i:Nat} (hg:am x=true) (hI:av x.t kd=i) (hi:i < x.t.length):(am x && aN x.t kd)=true∧dP x kd=pb (bu x.t[i].c) (bu (aS (bi kd) x.o)):=by
 have h1:aN x.t kd=true:=by rw [← cQ,hI]; simp
 refine ⟨by rw [hg,h1]; rfl, ?_⟩
 unfold dP lW
 rw [hg,h1,hI,Int.toNat_natCast,List.getD_eq_getElem?_getD,List.getElem?_eq_getElem hi]; rfl
theorem ir {ts:List aq} {kd:Int} (h : ¬ 0≤av ts kd):aN ts kd=false:=by rw [← cQ,decide_eq_false h]
set_option maxRecDepth 100000 in
set_option maxHeartbeats 2000000 in
theorem kp (x:aM) (kd:Int) (w:World) (h:aQ w w.heap.size x) :
  Calls Tryz.prog 178 #[x.val,O U kd] w fun e w'=>e=.returned (.tuple #[sQ (dP x kd),.bool (am x && aN x.t kd)])∧Below w.heap.size w w':=by
 have b1:=(Below.refl w.heap.size w).alloc (Nat.le_refl _) (.cells #[F x.TA x.t.length x.tc,F x.OA x.o.length x.oc,O U x.got,O U x.sold,O U x.missed] 40)
 have hA:=fY h 40
 have cG:=fun W hW=>dp x W hW
 have cT:=fun W hW=>bx x kd W hW
 cases hg:am x
 ·rw [hg] at cG
  have HN:=Lib.hid (jU (x:=x) (kd:=kd) (by rw [hg]; rfl))
  clear hg
  rw [HN.out]
  generalize av x.t kd=I at cT
  go_enter Tryz.func178,Tryz.ntmps178
  go_wp2_with fail
  generalize w.alloc (.cells #[F x.TA x.t.length x.tc,F x.OA x.o.length x.oc,O U x.got,O U x.sold,O U x.missed] 40)=W at b1 hA ⊢
  obtain ⟨p0,p1,p2,p3,p4⟩:=hA.s
  refine (aU (cT _ hA.r)).mono ?_
  rintro e w1 ⟨rfl,q1,rfl⟩
  go_wp2_with fail
  refine (aK (Nat.le_refl _) (cG _ (hA.r.at q1))).mono ?_
  rintro e w2 ⟨rfl,q2,rfl⟩
  go_wp2
  go_ret2
  exact ⟨rfl,b1.trans (q2.below.mono b1.size)⟩
 ·rw [hg] at cG
  have G:=bm.1 hg
  by_cases hI:0≤av x.t kd
  ·obtain ⟨i,hi⟩:=fo hI
   obtain ⟨hlt,hk⟩:=fQ hi
   have HY:=Lib.hid (iZ hg hi hlt).2
   have HT:Hid (aN x.t kd=true):=by have:=(iZ hg hi hlt).1; rw [hg] at this; exact this
   have cX:=fun W hW=>oC x i kd W hW G hlt hk
   rw [hi] at cT
   clear hg hI hi
   rw [HY.out,HT.out]
   generalize pb (bu x.t[i].c) (bu (aS (bi kd) x.o))=TX at cX ⊢
   go_enter Tryz.func178,Tryz.ntmps178
   go_wp2_with fail
   generalize w.alloc (.cells #[F x.TA x.t.length x.tc,F x.OA x.o.length x.oc,O U x.got,O U x.sold,O U x.missed] 40)=W at b1 hA ⊢
   obtain ⟨p0,p1,p2,p3,p4⟩:=hA.s
   refine (aU (cT _ hA.r)).mono ?_
   rintro e w1 ⟨rfl,q1,rfl⟩
   go_wp2_with fail
   refine (aK (Nat.le_refl _) (cG _ (hA.r.at q1))).mono ?_
   rintro e w2 ⟨rfl,q2,rfl⟩
   go_wp2_with fail
   refine (aK (Nat.le_refl _) (cX _ (hA.r.at q2))).mono ?_
   rintro e w3 ⟨rfl,q3,rfl⟩
   go_wp2
   go_ret2
   exact ⟨rfl,b1.trans (q3.below.mono b1.size)⟩
  ·have HH:=Lib.hid (ir hI)
   have HN:=Lib.hid (jU (x:=x) (kd:=kd) (by rw [ir hI,Bool.and_false]))
   clear hg
   rw [HN.out,HH.out]
   generalize av x.t kd=I at cT hI
   go_enter Tryz.func178,Tryz.ntmps178
   go_wp2_with fail
   generalize w.alloc (.cells #[F x.TA x.t.length x.tc,F x.OA x.o.length x.oc,O U x.got,O U x.sold,O U x.missed] 40)=W at b1 hA ⊢
   obtain ⟨p0,p1,p2,p3,p4⟩:=hA.s
   refine (aU (cT _ hA.r)).mono ?_
   rintro e w1 ⟨rfl,q1,rfl⟩
   go_wp2_with fail
   refine (aK (Nat.le_refl _) (cG _ (hA.r.at q1))).mono ?_
   rintro e w2 ⟨rfl,q2,rfl⟩
   go_wp2
   go_ret2
   exact ⟨rfl,b1.trans (q2.below.mono b1.size)⟩
theorem pA (t:ae) (gk:Nat) (kd:Int) (w:World) (hL:ai w gk 3 [O U kd]) :
  Calls Tryz.prog 125 (#[t.val]++#[.pointer (some ⟨gk,0,none⟩)]) w fun e w'=>e=.returned (.bool (bi kd t))∧Below w.heap.size w w':=by
 show Calls Tryz.prog 125 #[t.val,.pointer (some ⟨gk,0,none⟩)] w _
 have b1:=(Below.refl w.heap.size w).alloc (Nat.le_refl _) (.cells #[O U t.k,O U t.p,O U t.c] 147)
 have c0:=(hL.alloc (.cells #[O U t.k,O U t.p,O U t.c] 147)).cell 0
 simp only [List.getElem?_cons_zero] at c0
 obtain ⟨v,hv⟩ : ∃ v,(t.k == kd)=v:=⟨_,rfl⟩
 have HV:Hid (bi kd t=v):=by rw [← hv]; unfold Hid; rw [Bool.eq_iff_iff]; simp [bi]
 go_enter Tryz.func125,Tryz.ntmps125
 go_wp2
 go_ret
 exact ⟨by rw [HV.out]; rfl,b1⟩
set_option maxRecDepth 100000 in
set_option maxHeartbeats 2000000 in
theorem fM (x:aM) (g i:Nat) (kd:Int) (w:World) (h:bT w w.heap.size g x) (G:bn x) (hI:av x.t kd=i) (hi:i < x.t.length) (ht:hU w) :
  Calls Tryz.prog 70 #[.pointer (some ⟨g,0,none⟩),O U kd] w fun e w'=>e=.returned (sQ (pb (bu x.t[i].c) (bu (aS (bi kd) x.o))))∧Below w.heap.size w w':=by
 have hmf:∀ (fn:Fn) (first cap:Array Value) (w:World),(Instr.makeFunc fn first cap).run Tryz.prog w=.ok (.func fn first cap) w:=fun _ _ _ _=>rfl
 have b1:=(Below.refl w.heap.size w).alloc (Nat.le_refl _) (.cells #[O U kd] 3)
 have hL:=ai.new w 3 #[O U kd]
 have hA:=h.then b1 b1.size
 have ht1:=ht.then b1
 have ol:=G.ol
 have htb:=(aq.bounds (G.tall i hi)).2
 have hob:=eI (bi kd) x.t x.o 0 G.oall
 change 0≤aS (bi kd) x.o∧aS (bi kd) x.o≤_ at hob
 have HT:Hid (pb (bu x.t[i].c) (bu (aS (bi kd) x.o))=bu x.t[i].c++⟨#[32,105,110,32]⟩++bu (aS (bi kd) x.o)++⟨#[32,111,117,116]⟩):=rfl
 rw [HT.out]
 obtain ⟨tr,htr⟩ : ∃ tr,x.t[i]=tr:=⟨_,rfl⟩
 obtain ⟨S,hS⟩ : ∃ S,aS (bi kd) x.o=S:=⟨_,rfl⟩
 rw [htr] at htb
 rw [hS] at hob
 rw [htr,hS]
 go_enter Tryz.func70,Tryz.ntmps70
 go_wp2_with fail
 generalize w.alloc (.cells #[O U kd] 3)=W at b1 hL hA ht1 ⊢
 have cO:=eB (bi kd) 125 #[.pointer (some ⟨w.heap.size,0,none⟩)] Tryz.call125 x g W (fun o p=>pA o w.heap.size kd p.val (hL.below p.below hL.lt)) hA ol G.oall
 rw [hS] at cO
 refine (aU cO).mono ?_
 rintro e w1 ⟨rfl,q1,rfl⟩
 have hk0:∀ q:ao W.heap.size W,q.val.cell? ⟨w.heap.size,0,none⟩=some (O U kd):=fun q=>(q.cell hL.lt).trans (hL.cell 0)
 obtain ⟨p0,p1,p2,p3,p4⟩:=hA.s
 obtain ⟨bt,ot,hTA,_,htc⟩:=hA.r.ts.el (by omega)
 obtain ⟨t0,t1⟩:=htc i hi
 simp only [hTA] at p0
 have cA:=fun q:ao W.heap.size W=>ba x g kd q.val (hA.at q)
 rw [hI] at cA
 rw [htr] at t1
 obtain ⟨htb1,htb2⟩:=htb
 obtain ⟨hob1,hob2⟩:=hob
 have c1:=fun q:ao W.heap.size W=>cu tr.c q.val (by omega) (by omega) (ht1.at q)
 have c2:=fun q:ao W.heap.size W=>cu S q.val (by omega) (by omega) (ht1.at q)
 have z1:=cr htb1 (by omega:tr.c≤1000000000)
 have z2:=cr hob1 (by omega:S≤1000000000)
 have HA:Hid (bu tr.c=⟨(Lib.itoa tr.c).toArray⟩):=rfl
 have HB:Hid (bu S=⟨(Lib.itoa S).toArray⟩):=rfl
 generalize (⟨(Lib.itoa tr.c).toArray⟩ : ByteArray)=SA at c1 z1 HA
 generalize (⟨(Lib.itoa S).toArray⟩ : ByteArray)=SB at c2 z2 HB
 have hz0:(0:Int)≤(i:Int):=by omega
 have hii:(i:Int) < (x.t.length:Int):=by omega
 clear htc hTA cO hS t0 HT
 go_wp2
 refine bc _ (by kernel_rfl) (by kernel_rfl) ?_
 repeat (any_goals (first | go_big_quiet_step ((first | (go_at_call 116; with_reducible refine aK (Nat.le_refl _) (cA _)) | (go_at_call 69; with_reducible refine aK (Nat.le_refl _) (c1 _)) | (go_at_call 69; with_reducible refine aK (Nat.le_refl _) (c2 _)))) | (refine wpQuiet_step (fun K hK=>?_); go_simp; split <;> (refine hK _ ?_; clear hK K))))
 all_goals (refine wpQuiet_nil ?_; rintro _ ⟨q1,rfl⟩)
 all_goals go_wp2
 go_ret
 exact ⟨by rw [HA.out,HB.out]; rfl,ar b1 q1.below⟩
set_option maxRecDepth 100000 in
set_option maxHeartbeats 2000000 in
theorem kq (x:aM) (kd:Int) (w:World) (h:aQ w w.heap.size x) (ht:hU w) :
  Calls Tryz.prog 156 #[x.val,O U kd] w fun e w'=>e=.returned (.tuple #[sQ (dP x kd),.bool (am x && aN x.t kd)])∧Below w.heap.size w w':=by
 have b1:=(Below.refl w.heap.size w).alloc (Nat.le_refl _) (.cells #[F x.TA x.t.length x.tc,F x.OA x.o.length x.oc,O U x.got,O U x.sold,O U x.missed] 40)
 have hA:=fY h 40
 have ht1:=ht.then b1
 have cG:=fun W hW=>aX x w.heap.size W hW
 have cT:=fun W hW=>ba x w.heap.size kd W hW
 cases hg:am x
 ·rw [hg] at cG
  have HN:=Lib.hid (jU (x:=x) (kd:=kd) (by rw [hg]; rfl))
  clear hg
  rw [HN.out]
  go_enter Tryz.func156,Tryz.ntmps156
  go_wp2_with fail
  generalize w.alloc (.cells #[F x.TA x.t.length x.tc,F x.OA x.o.length x.oc,O U x.got,O U x.sold,O U x.missed] 40)=W at b1 hA ⊢
  refine (cG _ hA).mono ?_
  rintro e w1 ⟨rfl,hb⟩
  go_wp2
  go_ret2
  exact ⟨rfl,ar b1 hb⟩
 ·rw [hg] at cG
  have G:=bm.1 hg
  by_cases hI:0≤av x.t kd
  ·obtain ⟨i,hi⟩:=fo hI
   obtain ⟨hlt,hk⟩:=fQ hi
   have HY:=Lib.hid (iZ hg hi hlt).2
   have HT:Hid (aN x.t kd=true):=by have:=(iZ hg hi hlt).1; rw [hg] at this; exact this
   have cX:=fun W hW ht=>fM x w.heap.size i kd W hW G hi hlt ht
   rw [hi] at cT
   clear hg hI hi
   rw [HY.out,HT.out]
   generalize pb (bu x.t[i].c) (bu (aS (bi kd) x.o))=TX at cX ⊢
   go_enter Tryz.func156,Tryz.ntmps156
   go_wp2_with fail
   generalize w.alloc (.cells #[F x.TA x.t.length x.tc,F x.OA x.o.length x.oc,O U x.got,O U x.sold,O U x.missed] 40)=W at b1 hA ht1 ⊢
   refine (aU (cG _ hA)).mono ?_
   rintro e w1 ⟨rfl,q1,rfl⟩
   go_wp2_with fail
   refine (aK (Nat.le_refl _) (cT _ (hA.at q1))).mono ?_
   rintro e w2 ⟨rfl,q2,rfl⟩
   go_wp2_with fail
   refine (aK (Nat.le_refl _) (cX _ (hA.at q2) (ht1.at q2))).mono ?_
   rintro e w3 ⟨rfl,q3,rfl⟩
   go_wp2
   go_ret2
   exact ⟨rfl,b1.trans (q3.below.mono b1.size)⟩
  ·have HH:=Lib.hid (ir hI)
   have HN:=Lib.hid (jU (x:=x) (kd:=kd) (by rw [ir hI,Bool.and_false]))
   clear hg
   rw [HN.out,HH.out]
   generalize av x.t kd=I at cT hI
   go_enter Tryz.func156,Tryz.ntmps156
   go_wp2_with fail
   generalize w.alloc (.cells #[F x.TA x.t.length x.tc,F x.OA x.o.length x.oc,O U x.got,O U x.sold,O U x.missed] 40)=W at b1 hA ⊢
   refine (aU (cG _ hA)).mono ?_
   rintro e w1 ⟨rfl,q1,rfl⟩
   go_wp2_with fail
   refine (aK (Nat.le_refl _) (cT _ (hA.at q1))).mono ?_
   rintro e w2 ⟨rfl,q2,rfl⟩
   go_wp2
   go_ret2
   exact ⟨rfl,b1.trans (q2.below.mono b1.size)⟩
def bl (s:ByteArray):List UInt8:=s.data.toList
theorem du (a b:ByteArray):bl (a++b)=bl a++bl b:=by unfold bl; rw [ByteArray.data_append,Array.toList_append]
theorem bM (l:List UInt8):bl ⟨l.toArray⟩=l:=by simp [bl]
theorem kr (l:Array UInt8):bl ⟨l⟩=l.toList:=rfl
theorem ap (s:ByteArray):(bl s).length=s.size:=rfl
theorem dd {s:ByteArray} {l:List UInt8} (h:bl s=l):s=⟨l.toArray⟩:=by
 rw [← h]; simp [bl]
set_option maxRecDepth 10000 in
theorem dK (a b:ByteArray):(a++b).size=a.size+b.size:=by rw [← ap (a++b),du,List.length_append,ap,ap]
theorem i7 {s:ByteArray} {k:Nat} (h:k < s.size):(bl s).drop k=s[k] :: (bl s).drop (k+1):=List.drop_eq_getElem_cons (l:=bl s) h
theorem si {s:ByteArray} {k:Nat} (h:k < s.size):(bl s).take (k+1)=(bl s).take k++[s[k]]:=List.take_succ_eq_append_getElem (l:=bl s) h
theorem bE (s:ByteArray) (a b:Nat):bl (s.extract a b)=((bl s).take b).drop a:=by
 unfold bl
 rw [Lib.extract_data,List.drop_take]
theorem sr {a b:UInt8} : ((a.toNat:Int) == (b.toNat:Int))=decide (a=b):=by
 rw [Bool.eq_iff_iff]; simp [← UInt8.toNat_inj]; omega
end Go.Proofs.YtoeoimhemojdeaaGreatDoor
namespace Go.Proofs.YtoeoimhemojdeaaGreatDoor
theorem sK (s:ByteArray):s.toList=bl s:=ByteArray.toList_eq s
theorem qP {s:ByteArray} (h : ¬ 1≤s.size):s.toList = []:=by rw [sK]; exact List.eq_nil_of_length_eq_zero (by rw [ap]; omega)
theorem qQ {s:ByteArray} (h:1≤s.size):s.toList ≠ []:=fun e=>by rw [sK] at e; have:=congrArg List.length e; rw [ap,List.length_nil] at this; omega
end Go.Proofs.YtoeoimhemojdeaaGreatDoor
