/- Lemmas. -/
import Derived.WalkKit
import Derived.WalkLawsBesides
import Derived.WalkSpells
import Derived.BigQuiet
import Derived.Deep.QuietTactic
import Derived.Deep.Draws
import Derived.Deep.MidRow
import Derived.Laws.CopyRow
import Derived.Outline
import Derived.Lib.Hide
import Derived.Handy
import Derived.Test.YtoeoimhemojdeaaGreatDoorProg
import Derived.Laws.BitsAllLaws
import Derived.Orders
import Derived.Deep.DeepCutAuto

set_option linter.unusedVariables false
set_option linter.unusedSimpArgs false
set_option maxHeartbeats 8000000
open Go.Value renaming int → O, slice → F, string → xh
open Go.IntKind renaming i64 → U
open Go.Proofs.Tryz renaming prog → xi

namespace Go.Proofs.YtoeoimhemojdeaaGreatDoor
open Go.RowKit
theorem oM {p:Prop} (h:p:=by omega):p:=h
theorem dD {p:Prop} (h:p:=by decide):p:=h
theorem sP {p:Prop} (h:p:=by simp):p:=h
theorem kZ {p:Prop} (h:p:=by kernel_rfl):p:=h
theorem iE {p:Prop} (h:p:=by (intro e;injection e;omega)):p:=h
theorem jZ {p:Prop} (h:p):Go.RowKit.Hid p:=Lib.hid h
theorem jB {B:Nat} {w:World}:Below B w w:=Below.refl B w
theorem jG {w:World} {r:Option Nat}:w.grownBy w r:=World.grownBy.refl w r
theorem jL {a b c:Nat} (h:a<b) (h':b≤c):a<c:=Nat.lt_of_lt_of_le h h'
theorem jT {a b c:Nat} (h:a≤b) (h':b≤c):a≤c:=Nat.le_trans h h'
theorem jD {p:Prop} [Decidable p] (h:p):decide p=true:=decide_eq_true h
theorem jE {p:Prop} [Decidable p] (h:¬p):decide p=false:=decide_eq_false h
theorem nR {n:Nat}:n≤n:=Nat.le_refl n
structure aq (B:Nat) (w:World) where
 val:World
 below:Below B w val
theorem aq.cell {B:Nat} {w:World} (p:aq B w) {a:Addr} (h:a.block < B):p.val.cell? a=w.cell? a:=p.below.cell h
theorem aq.size {B:Nat} {w:World} (p:aq B w):w.heap.size≤p.val.heap.size:=p.below.size
def aq.start (B:Nat) (w:World):aq B w:=⟨w,Below.refl B w⟩
instance aq.any (B:Nat) (w:World):Inhabited (aq B w):=⟨aq.start B w⟩
def aq.go {B:Nat} {w:World} (p:aq B w) {w' : World} (hB:B≤w.heap.size) (h:Below p.val.heap.size p.val w'):aq B w :=
 ⟨w',p.below.trans (h.mono (jT hB p.size))⟩
def aq.go' {B:Nat} {w:World} (p:aq B w) {w' : World} (h:Below B p.val w'):aq B w:=⟨w',p.below.trans h⟩
theorem ba {P:Program} {id:Nat} {Q:Exit→Act→World→Prop} {a:Act} {B:Nat} {w:World} {l:List Oper} (p:aq B w) (hm:P.follows .mixedOrders=true) (hB:Region.lexB .any l.toArray=true)
  (h:wpQuiet P l.toArray (fun w'=>∃ q:aq B w,w'=q.val) (fun a'=>∀ w',(∃ q:aq B w,w'=q.val)→Q .normal a' w') l a):(Code.region id l.toArray true).wp P Q a p.val :=
 wp_region_quiet (C:=fun w'=>∃ q:aq B w,w'=q.val) hm hB ⟨⟨_,p.below.drew⟩,rfl⟩ (by simpa using h)
theorem aw {P:Program} {id:Nat} {Q:Exit→Act→World→Prop} {a:Act} {w:World} {l:List Oper} (hm:P.follows .mixedOrders=true) (hB:Region.lexB .any l.toArray=true)
  (h:wpQuiet P l.toArray (fun w'=>∃ q:aq w.heap.size w,w'=q.val) (fun a'=>∀ w',(∃ q:aq w.heap.size w,w'=q.val)→Q .normal a' w') l a):(Code.region id l.toArray true).wp P Q a w :=
 ba (aq.start w.heap.size w) hm hB h
theorem aP {P:Program} {f:FuncId} {args:Array Value} {B:Nat} {w:World} {q:aq B w} {v:Value} (hB:B≤w.heap.size)
  (h:Calls P f args q.val fun e w'=>e=.returned v∧Below q.val.heap.size q.val w'):Calls P f args q.val fun e w'=>e=.returned v∧∃ q' : aq B w,w'=q'.val :=
 h.mono fun _ _ ⟨he,hb⟩=>⟨he,q.go hB hb,rfl⟩
theorem r4 {P:Program} {f:FuncId} {args:Array Value} {B:Nat} {w:World} {q:aq B w} {v:Value}
  (h:Calls P f args q.val fun e w'=>e=.returned v∧q.val=w'):Calls P f args q.val fun e w'=>e=.returned v∧∃ q' : aq B w,w'=q'.val :=
 h.mono fun _ _ ⟨he,hb⟩=>⟨he,q,hb.symm⟩
theorem aB {P:Program} {f:FuncId} {args:Array Value} {B:Nat} {w:World} {q:aq B w} {b b' : Bool} (hb:Hid (b=b'))
  (h:Calls P f args q.val fun e w'=>e=.returned (.bool b)∧q.val=w'):Calls P f args q.val fun e w'=>e=.returned (.bool b')∧∃ q' : aq B w,w'=q'.val:=by
 have:=hb.out; subst this; exact r4 h
theorem av {a b c:World} (h:Below a.heap.size a b) (k:Below b.heap.size b c):Below a.heap.size a c:=h.trans (k.mono h.size)
theorem aX {P:Program} {f:FuncId} {args:Array Value} {W:World} {v:Value}
  (h:Calls P f args W fun e w'=>e=.returned v∧Below W.heap.size W w'):Calls P f args W fun e w'=>e=.returned v∧∃ q' : aq W.heap.size W,w'=q'.val :=
 h.mono fun _ _ ⟨he,hb⟩=>⟨he,⟨_,hb⟩,rfl⟩
structure bi (w:World) (B k:Nat) (A:Option Addr) (n:Nat) (cs:List Value):Prop where
 len:cs.length=n * k
 big:n≤9223372036854775807
 at_:0 < n→∃ b off,A=some ⟨b,off,none⟩∧b < B∧∀ j u,cs[j]?=some u→w.cell? ⟨b,off+j,none⟩=some u
theorem bi.keep {w w' : World} {B k n:Nat} {A:Option Addr} {cs:List Value} (h:bi w B k A n cs) (hk:∀ p:Addr,p.block < B→w'.cell? p=w.cell? p):bi w' B k A n cs :=
 ⟨h.len,h.big,fun hn=>by
  obtain ⟨b,off,e,hb,hc⟩:=h.at_ hn
  exact ⟨b,off,e,hb,fun j u hu=>(hk _ hb).trans (hc j u hu)⟩⟩
theorem bi.below {w w' : World} {B k n:Nat} {A:Option Addr} {cs:List Value} (h:bi w B k A n cs) (hb:Below B w w'):bi w' B k A n cs:=h.keep fun _ hp=>hb.cell hp
theorem bi.mono {w:World} {B B' k n:Nat} {A:Option Addr} {cs:List Value} (h:bi w B k A n cs) (hB:B≤B'):bi w B' k A n cs :=
 ⟨h.len,h.big,fun hn=>by
  obtain ⟨b,off,e,hb,hc⟩:=h.at_ hn
  exact ⟨b,off,e,oM,hc⟩⟩
theorem bi.up {w w' : World} {B k n:Nat} {A:Option Addr} {cs:List Value} (h:bi w B k A n cs) (hb:Below B w w') (hB:B≤w.heap.size):bi w' w'.heap.size k A n cs :=
 (h.below hb).mono (jT hB hb.size)
theorem bi.then {w w' : World} {k n:Nat} {A:Option Addr} {cs:List Value} (h:bi w w.heap.size k A n cs) (hb:Below w.heap.size w w'):bi w' w'.heap.size k A n cs:=(h.below hb).mono hb.size
theorem bi.nil (w:World) (B k:Nat) (A:Option Addr):bi w B k A 0 []:=⟨sP,oM,fun h=>absurd h oM⟩
theorem fm {α:Type} (enc:α→List Value) (k:Nat) (hk:∀ x,(enc x).length=k):∀ (l:List α) (i:Nat) (h:i < l.length) (j:Nat),j < k→(l.flatMap enc)[i * k+j]?=(enc l[i])[j]?
 | x :: l,0,_,j,hj=>by
  simp only [List.flatMap_cons,Nat.zero_mul,Nat.zero_add,List.getElem_cons_zero]
  rw [List.getElem?_append_left (by rw [hk]; exact hj)]
 | x :: l,i+1,h,j,hj=>by
  have e:(i+1) * k+j=(enc x).length+(i * k+j):=by rw [hk,Nat.succ_mul]; omega
  simp only [List.flatMap_cons,List.getElem_cons_succ]
  rw [e,List.getElem?_append_right oM,Nat.add_sub_cancel_left]
  exact fm enc k hk l i (by simpa using h) j hj
theorem fZ {α:Type} (enc:α→List Value) (k:Nat) (hk:∀ x,(enc x).length=k):∀ l:List α,(l.flatMap enc).length=l.length * k
 | []=>by simp
 | x :: l=>by simp only [List.flatMap_cons,List.length_append,fZ enc k hk l,hk,List.length_cons,Nat.succ_mul]; omega
def ai (w:World) (g:Nat) (t:TypeId) (cs:List Value):Prop:=w.heap[g]?=some (.cells cs.toArray t (0,0))
section
variable {w w' : World} {g:Nat} {t:TypeId} {cs:List Value}
theorem ai.lt (h:ai w g t cs):g < w.heap.size:=by
 rcases Nat.lt_or_ge g w.heap.size with xu | xR
 ·exact xu
 ·unfold ai at h; rw [Array.getElem?_eq_none xR] at h; cases h
theorem ai.cell (h:ai w g t cs) (i:Nat):w.cell? ⟨g,i,none⟩=cs[i]?:=by rw [cell_of_row w g i _ t (0,0) h]; simp
theorem ai.frozen (h:ai w g t cs) (i:Nat):w.frozen? ⟨g,i,none⟩=false:=frozen_of_row w g i _ t h
theorem ai.below {B:Nat} (h:ai w g t cs) (hb:Below B w w') (hg:g < B):ai w' g t cs:=(hb.block g hg).trans h
theorem ai.kept {row:Option Nat} (h:ai w g t cs) (hb:w.grownBy w' row) (hg:some g ≠ row):ai w' g t cs:=(hb.block g h.lt hg).trans h
theorem ai.alloc (h:ai w g t cs) (o:Obj):ai (w.alloc o) g t cs:=(Below.heap_alloc w o g h.lt).trans h
theorem ai.set (h:ai w g t cs) (i:Nat) (u:Value):ai (w.setCell ⟨g,i,none⟩ u) g t (cs.set i u):=by
 have:=heap_setCell_same w g i cs.toArray t u h
 unfold ai; rw [this]; simp
theorem ai.other (h:ai w g t cs) {p:Addr} (hp:g ≠ p.block) (u:Value):ai (w.setCell p u) g t cs:=(Below.heap_setCell w p u g hp).trans h
theorem ai.reads {k n:Nat} (h:ai w g t cs) (hl:cs.length=n * k) (hn:n≤9223372036854775807):bi w w.heap.size k (some ⟨g,0,none⟩) n cs :=
 ⟨hl,hn,fun _=>⟨g,0,rfl,h.lt,fun j u hu=>by rw [Nat.zero_add,h.cell]; exact hu⟩⟩
end
theorem ai.new (w:World) (t:TypeId) (cs:Array Value):ai (w.alloc (.cells cs t)) w.heap.size t cs.toList:=heap_alloc_new w _
theorem ai.of {w:World} {g:Nat} {t:TypeId} {cs:Array Value} (h:w.heap[g]?=some (.cells cs t (0,0))):ai w g t cs.toList:=h
theorem ai.own {w:World} {g:Nat} {t:TypeId} {cs:List Value} (h:ai w g t cs) {B k n:Nat} (hB:B≤g) (hl:cs.length=n * k) (hn:n≤maxLen):w.ownsRow B t k (F (some ⟨g,0,none⟩) n n) n cs:=by
 refine ⟨hl,Or.inr ⟨g,n,_,rfl,hB,h,Nat.le_refl _,hn,by simpa using hl, ?_⟩⟩
 simp only
 exact List.take_of_length_le oM
def aY (cs:List Value) (i:Nat) (vs:List Value):List Value:=cs.take i++vs++cs.drop (i+vs.length)
theorem jA {P:Program} (t e:TypeId) (z:Value) (size bytes:Nat) (ht:P.underlying t=some (.slice e)) (hinfo:(P.info? e).map (fun i=>(i.zero,i.size,i.bytes))=some (some z,size,bytes))
  (n:Nat) (hbytes:bytes * n≤140737488355328) (h63:n≤9223372036854775807) (w:World) :
  (Instr.makeSlice t (O U (n:Int)) (O U (n:Int))).run P w=.ok (F (some ⟨w.heap.size,0,none⟩) n n) (w.alloc (.cells (madeCells z.cells (n * size)) e)):=by
 obtain ⟨i,hi,hz,hs,hb⟩:=info_parts hinfo
 have hb' : (i.bytes:Int) * (n:Int)≤281474976710656:=by
  have h:((i.bytes * n:Nat):Int)≤281474976710656:=by rw [hb]; omega
  rwa [Int.natCast_mul] at h
 have hr:=run_make (P:=P) w t e i z ht hi hz .i64 .i64 n n oM oM hb' oM
 simp only [Int.toNat_natCast] at hr
 rw [← hs]
 exact hr
theorem sA {α:Type _} (l:List α) (i:Nat) (a:α):l.toArray.setIfInBounds i a=(l.set i a).toArray:=sP
theorem gs0 {α:Type _} {x y:α} {l:List α}:(x::l).set 0 y=y::l:=List.set_cons_zero
theorem gs1 {α:Type _} {x y:α} {l:List α} {n:Nat}:(x::l).set (n+1) y=x::l.set n y:=List.set_cons_succ
theorem bR {p:Prop} {B:Nat} {w:World} (_:p):Below B w w:=Below.refl _ _
theorem cells2 {w:World} {g:Nat} {t:TypeId} {a0 a1:Value} {r:List Value} (h:ai w g t (a0::a1::r)):w.cell? ⟨g,0,none⟩=some a0∧w.cell? ⟨g,1,none⟩=some a1:=⟨h.cell 0,h.cell 1⟩
theorem frz2 {w:World} {g:Nat} {t:TypeId} {cs:List Value} (h:ai w g t cs):w.frozen? ⟨g,0,none⟩=false∧w.frozen? ⟨g,1,none⟩=false:=⟨h.frozen 0,h.frozen 1⟩
theorem cells3 {w:World} {g:Nat} {t:TypeId} {a0 a1 a2:Value} {r:List Value} (h:ai w g t (a0::a1::a2::r)):w.cell? ⟨g,0,none⟩=some a0∧w.cell? ⟨g,1,none⟩=some a1∧w.cell? ⟨g,2,none⟩=some a2:=⟨h.cell 0,h.cell 1,h.cell 2⟩
theorem frz3 {w:World} {g:Nat} {t:TypeId} {cs:List Value} (h:ai w g t cs):w.frozen? ⟨g,0,none⟩=false∧w.frozen? ⟨g,1,none⟩=false∧w.frozen? ⟨g,2,none⟩=false:=⟨h.frozen 0,h.frozen 1,h.frozen 2⟩
theorem cells4 {w:World} {g:Nat} {t:TypeId} {a0 a1 a2 a3:Value} {r:List Value} (h:ai w g t (a0::a1::a2::a3::r)):w.cell? ⟨g,0,none⟩=some a0∧w.cell? ⟨g,1,none⟩=some a1∧w.cell? ⟨g,2,none⟩=some a2∧w.cell? ⟨g,3,none⟩=some a3:=⟨h.cell 0,h.cell 1,h.cell 2,h.cell 3⟩
theorem frz4 {w:World} {g:Nat} {t:TypeId} {cs:List Value} (h:ai w g t cs):w.frozen? ⟨g,0,none⟩=false∧w.frozen? ⟨g,1,none⟩=false∧w.frozen? ⟨g,2,none⟩=false∧w.frozen? ⟨g,3,none⟩=false:=⟨h.frozen 0,h.frozen 1,h.frozen 2,h.frozen 3⟩
theorem cells5 {w:World} {g:Nat} {t:TypeId} {a0 a1 a2 a3 a4:Value} {r:List Value} (h:ai w g t (a0::a1::a2::a3::a4::r)):w.cell? ⟨g,0,none⟩=some a0∧w.cell? ⟨g,1,none⟩=some a1∧w.cell? ⟨g,2,none⟩=some a2∧w.cell? ⟨g,3,none⟩=some a3∧w.cell? ⟨g,4,none⟩=some a4:=⟨h.cell 0,h.cell 1,h.cell 2,h.cell 3,h.cell 4⟩
theorem frz5 {w:World} {g:Nat} {t:TypeId} {cs:List Value} (h:ai w g t cs):w.frozen? ⟨g,0,none⟩=false∧w.frozen? ⟨g,1,none⟩=false∧w.frozen? ⟨g,2,none⟩=false∧w.frozen? ⟨g,3,none⟩=false∧w.frozen? ⟨g,4,none⟩=false:=⟨h.frozen 0,h.frozen 1,h.frozen 2,h.frozen 3,h.frozen 4⟩
theorem cells8 {w:World} {g:Nat} {t:TypeId} {a0 a1 a2 a3 a4 a5 a6 a7:Value} {r:List Value} (h:ai w g t (a0::a1::a2::a3::a4::a5::a6::a7::r)):w.cell? ⟨g,0,none⟩=some a0∧w.cell? ⟨g,1,none⟩=some a1∧w.cell? ⟨g,2,none⟩=some a2∧w.cell? ⟨g,3,none⟩=some a3∧w.cell? ⟨g,4,none⟩=some a4∧w.cell? ⟨g,5,none⟩=some a5∧w.cell? ⟨g,6,none⟩=some a6∧w.cell? ⟨g,7,none⟩=some a7:=⟨h.cell 0,h.cell 1,h.cell 2,h.cell 3,h.cell 4,h.cell 5,h.cell 6,h.cell 7⟩
theorem frz8 {w:World} {g:Nat} {t:TypeId} {cs:List Value} (h:ai w g t cs):w.frozen? ⟨g,0,none⟩=false∧w.frozen? ⟨g,1,none⟩=false∧w.frozen? ⟨g,2,none⟩=false∧w.frozen? ⟨g,3,none⟩=false∧w.frozen? ⟨g,4,none⟩=false∧w.frozen? ⟨g,5,none⟩=false∧w.frozen? ⟨g,6,none⟩=false∧w.frozen? ⟨g,7,none⟩=false:=⟨h.frozen 0,h.frozen 1,h.frozen 2,h.frozen 3,h.frozen 4,h.frozen 5,h.frozen 6,h.frozen 7⟩
theorem gz0 {α:Type _} {a:α} {l:List α}:(a::l)[0]?=some a:=List.getElem?_cons_zero
theorem gz1 {α:Type _} {a:α} {l:List α} {i:Nat}:(a::l)[i+1]?=l[i]?:=List.getElem?_cons_succ
theorem mC {α:Type _} {a b:α} {l:List α}:a ∈ b::l ↔ a=b ∨ a ∈ l:=List.mem_cons
theorem mN {α:Type _} {a:α}:¬ a ∈ ([]:List α):=List.not_mem_nil
theorem oF (p:Prop):(p ∨ False)=p:=or_false p
theorem gR {p:Prop} {w:World} {r:Option Nat} (_:p):w.grownBy w r:=World.grownBy.refl _ _
theorem nq {p q:Prop} (h:¬p:=by decide) (hp:p):q:=(h hp).elim
theorem aD {p:Prop} (h:p:=by first | assumption | exact ⟨dD,dD⟩):p:=h
theorem bZ (w:World) (o:Obj):Below w.heap.size w (w.alloc o):=(Below.refl w.heap.size w).alloc nR o
theorem aA {a b c:World} {row:Option Nat} (h:a.grownBy b row) (k:b.grownBy c row):a.grownBy c row :=
 ⟨k.os.trans h.os,k.tape.trans h.tape,k.output.trans h.output,jT h.size k.size,fun j hj xw=>(k.block j (jL hj h.size) xw).trans (h.block j hj xw)⟩
abbrev bj (l:List Int):List Value:=l.map (Value.int .i64)
theorem jk (l:List Int):(bj l).length=l.length * 1:=sP
abbrev iS (w:World) (B:Nat) (A:Option Addr) (l:List Int):Prop:=bi w B 1 A l.length (bj l)
theorem iS.ints {w:World} {B:Nat} {A:Option Addr} {l:List Int} (h:iS w B A l) (xw:0 < l.length):∃ b off,A=some ⟨b,off,none⟩∧b < B∧∀ i (hi:i < l.length) (p:aq B w),p.val.cell? ⟨b,off+i,none⟩=some (O U l[i]):=by
 obtain ⟨b,off,e,hb,hc⟩:=h.at_ xw
 exact ⟨b,off,e,hb,fun i hi p=>(p.cell hb).trans (hc i _ (by simp [hi]))⟩
def cq (w:World) (B:Nat) (t:TypeId) (k:Nat) (A:Option Addr) (n:Nat) (cs:List Value):Prop :=
 cs.length=n * k∧n≤9223372036854775807∧((A=none∧n=0) ∨ ∃ g rest,A=some ⟨g,0,none⟩∧B≤g∧ai w g t (cs++rest))
theorem cq.of {w:World} {B:Nat} {t:TypeId} {k:Nat} {A:Option Addr} {n c:Nat} {cs:List Value} (h:w.ownsRow B t k (F A n c) n cs):cq w B t k A n cs:=by
 obtain ⟨hl,h | ⟨g,cap,cur,hv,hg,hh,h1,h2,h3,h4⟩⟩:=h
 ·injection h.1 with e1 e2 e3
  exact ⟨hl,oM,.inl ⟨e1,e2⟩⟩
 ·injection hv with e1 e2 e3
  refine ⟨hl,by unfold maxLen at h2; omega,.inr ⟨g,cur.toList.drop (n * k),e1,hg, ?_⟩⟩
  have:cs++cur.toList.drop (n * k)=cur.toList:=by rw [← h4]; exact List.take_append_drop _ _
  rw [this]
  exact ai.of hh
theorem cq.reads {w:World} {B:Nat} {t:TypeId} {k:Nat} {A:Option Addr} {n:Nat} {cs:List Value} (h:cq w B t k A n cs):bi w w.heap.size k A n cs:=by
 obtain ⟨hl,hn,⟨_,h0⟩ | ⟨g,rest,hA,hg,hh⟩⟩:=h
 ·exact ⟨hl,hn,fun h=>by omega⟩
 ·exact ⟨hl,hn,fun _=>⟨g,0,hA,hh.lt,fun j u hu=>by
   rw [Nat.zero_add,hh.cell,List.getElem?_append_left (List.getElem?_eq_some_iff.1 hu).1]; exact hu⟩⟩
theorem cq.kept {w w' : World} {B:Nat} {t:TypeId} {k:Nat} {A:Option Addr} {n:Nat} {cs:List Value} (h:cq w B t k A n cs) {g:Nat} (hg:w.grownBy w' (some g)) (xu:g < B):cq w' B t k A n cs:=by
 obtain ⟨hl,hn,h0 | ⟨g',rest,hA,hg',hh⟩⟩:=h
 ·exact ⟨hl,hn,.inl h0⟩
 ·exact ⟨hl,hn,.inr ⟨g',rest,hA,hg',hh.kept hg (by intro e; injection e with e; omega)⟩⟩
theorem cq.then {w w' : World} {B:Nat} {t:TypeId} {k:Nat} {A:Option Addr} {n:Nat} {cs:List Value} (h:cq w B t k A n cs) (hb:Below w.heap.size w w'):cq w' B t k A n cs:=by
 obtain ⟨hl,hn,h0 | ⟨g',rest,hA,hg',hh⟩⟩:=h
 ·exact ⟨hl,hn,.inl h0⟩
 ·exact ⟨hl,hn,.inr ⟨g',rest,hA,hg',hh.below hb hh.lt⟩⟩
def ramp:Int→Nat→List Int
 | _,0=>[]
 | k,n+1=>k :: ramp (k+1) n
theorem iw:∀ (k:Int) (n:Nat),(ramp k n).length=n
 | _,0=>rfl
 | k,n+1=>by simp [ramp,iw (k+1) n]
theorem fc {a w:World} {row:Option Nat} (h:a.grownBy w row) (p:Addr) (xu:p.block < a.heap.size) (xw:some p.block ≠ row):w.cell? p=a.cell? p:=World.cell?_of_block (w:=a) (h.block p.block xu xw)
theorem cq.held {w:World} {B:Nat} {t:TypeId} {A:Option Addr} {k0:Int} {n:Nat} (h:cq w B t 1 A n (bj (ramp k0 n))):iS w w.heap.size A (Go.Proofs.YtoeoimhemojdeaaGreatDoor.ramp k0 n):=by
 have:=h.reads
 unfold iS; rw [iw]; exact this
theorem ab {a w:World} {g i:Nat} {u:Value} (h:a.grownBy w (some g)):a.grownBy (w.setCell ⟨g,i,none⟩ u) (some g) :=
 ⟨h.os,h.tape,h.output,by simpa [World.setCell] using h.size,fun k hk xw=>(Below.heap_setCell w ⟨g,i,none⟩ u k (fun e=>xw (by rw [e]))).trans (h.block k hk xw)⟩
theorem gw2 (w:World) (g:Nat) (u0 u1:Value):w.grownBy ((w.setCell ⟨g,0,none⟩ u0).setCell ⟨g,1,none⟩ u1) (some g):=ab (ab (World.grownBy.refl w (some g)))
theorem gw3 (w:World) (g:Nat) (u0 u1 u2:Value):w.grownBy (((w.setCell ⟨g,0,none⟩ u0).setCell ⟨g,1,none⟩ u1).setCell ⟨g,2,none⟩ u2) (some g):=ab (ab (ab (World.grownBy.refl w (some g))))
theorem gw4 (w:World) (g:Nat) (u0 u1 u2 u3:Value):w.grownBy ((((w.setCell ⟨g,0,none⟩ u0).setCell ⟨g,1,none⟩ u1).setCell ⟨g,2,none⟩ u2).setCell ⟨g,3,none⟩ u3) (some g):=ab (ab (ab (ab (World.grownBy.refl w (some g)))))
theorem gw5 (w:World) (g:Nat) (u0 u1 u2 u3 u4:Value):w.grownBy (((((w.setCell ⟨g,0,none⟩ u0).setCell ⟨g,1,none⟩ u1).setCell ⟨g,2,none⟩ u2).setCell ⟨g,3,none⟩ u3).setCell ⟨g,4,none⟩ u4) (some g):=ab (ab (ab (ab (ab (World.grownBy.refl w (some g))))))
theorem gw8 (w:World) (g:Nat) (u0 u1 u2 u3 u4 u5 u6 u7:Value):w.grownBy ((((((((w.setCell ⟨g,0,none⟩ u0).setCell ⟨g,1,none⟩ u1).setCell ⟨g,2,none⟩ u2).setCell ⟨g,3,none⟩ u3).setCell ⟨g,4,none⟩ u4).setCell ⟨g,5,none⟩ u5).setCell ⟨g,6,none⟩ u6).setCell ⟨g,7,none⟩ u7) (some g):=ab (ab (ab (ab (ab (ab (ab (ab (World.grownBy.refl w (some g)))))))))
abbrev vd (l:List UInt8):List Value:=l.map fun b=>Value.int .u8 (b.toNat:Int)
abbrev gB (w:World) (B:Nat) (A:Option Addr) (l:List UInt8):Prop:=bi w B 1 A l.length (vd l)
theorem ff {a w:World} {row:Option Nat} (h:a.grownBy w row):a.grownBy w.drew row:=⟨h.os,h.tape,h.output,h.size,h.block⟩
theorem nN (n:Int):0≤IntKind.u64.wrap n∧IntKind.u64.wrap n < 18446744073709551616:=by
 simp [IntKind.wrap,IntKind.signed,IntKind.bits]; omega
theorem wG (E:Int) (h0:0≤E) (h1:E < 18446744073709551616):∃ b:Nat,b≤255∧wrap64 (bits .and .u64 E 255)=(b:Int):=by
 refine ⟨E.toNat &&& 255,Nat.and_le_right, ?_⟩
 rw [u64_and E 255 h0 h1 oM oM]
 have he:(255:Int).toNat=255:=rfl
 rw [he]
 have:E.toNat &&& 255≤255:=Nat.and_le_right
 unfold wrap64; omega
def iP (w:World) (g:Nat) (A:Option Addr) (n cap m:Nat):Prop :=
 ∃ (p:Nat) (seed:Int),ai w g 92 [F A n cap,O U p,.int .u64 seed]∧p≤m∧0≤seed∧seed < 18446744073709551616
theorem nO (g:Nat) (A:Option Addr) (cap m:Nat) (bs:List UInt8) (w:World) (hm:m≤1000000000) (hc:iP w g A bs.length cap m) (hr:gB w g A bs) :
  Calls xi 110 #[.pointer (some ⟨g,0,none⟩)] w fun e w'=>∃ b:Nat,e=.returned (O U b)∧b≤255∧iP w' g A bs.length cap (m+1)∧w.grownBy w' (some g):=by
 obtain ⟨p,seed,hL,hp,Lb,FZ⟩:=hc
 have hl:=hr.big
 have k0:=hL.cell 0
 have k1:=hL.cell 1
 have k2:=hL.cell 2
 have f1:=hL.frozen 1
 have f2:=hL.frozen 2
 simp only [gz0,gz1] at k0 k1 k2
 by_cases xu:p < bs.length
 ·obtain ⟨b,off,rfl,hb,hcell⟩:=hr.at_ oM
  have kc:=hcell p (.int .u8 (bs[p].toNat:Int)) (by simp [xu])
  have hx:bs[p].toNat < 256:=bs[p].toNat_lt
  generalize bs[p].toNat=x at kc hx
  clear hcell hr
  go_enter Tryz.func110,Tryz.ntmps110
  go_wp2
  go_region
  go_wp2
  go_region
  go_wp2
  go_region
  go_wp2
  ·go_ret
   exact ⟨x,rfl,oM,⟨p+1,_,(hL.set 1 _).set 2 _,oM,(nN _).1,(nN _).2⟩,ff (ff (ff (ab (ab (World.grownBy.refl w _)))))⟩
 ·clear hr
  go_enter Tryz.func110,Tryz.ntmps110
  go_wp2
  go_region
  go_wp2
  go_region
  go_wp2
  ·have hw:=nN (IntKind.u64.wrap (IntKind.u64.wrap (seed * 6364136223846793005))+381907)
   obtain ⟨y,hy,he⟩:=wG (IntKind.u64.wrap (IntKind.u64.wrap (IntKind.u64.wrap (seed * 6364136223846793005))+381907) / 1099511627776) (Int.ediv_nonneg hw.1 oM) oM
   rw [he]
   go_ret
   exact ⟨y,rfl,hy,⟨p+1,_,(hL.set 1 _).set 2 _,oM,hw.1,hw.2⟩,ff (ff (ab (ab (World.grownBy.refl w _))))⟩
theorem iP.mono {w:World} {g:Nat} {A:Option Addr} {n cap m m' : Nat} (h:iP w g A n cap m) (hm:m≤m'):iP w g A n cap m':=by
 obtain ⟨p,s,h1,h2,h3⟩:=h
 exact ⟨p,s,h1,oM,h3⟩
theorem iP.lt {w:World} {g:Nat} {A:Option Addr} {n cap m:Nat} (h:iP w g A n cap m):g < w.heap.size:=by
 obtain ⟨p,s,h1,_⟩:=h
 exact h1.lt
theorem bi.grown {w w' : World} {B k n g:Nat} {A:Option Addr} {cs:List Value} (h:bi w B k A n cs) (hg:w.grownBy w' (some g)) (hB:B≤g) (AL:g < w.heap.size):bi w' B k A n cs :=
 h.keep fun p hp=>fc hg p oM iE
theorem nP (g:Nat) (A:Option Addr) (cap m n:Nat) (bs:List UInt8) (w:World) (hn:n≤100000) (hm:m≤900000000) (hc:iP w g A bs.length cap m) (hr:gB w g A bs) :
  Calls xi 63 #[.pointer (some ⟨g,0,none⟩),O U n] w fun e w'=>∃ x:Nat,e=.returned (O U x)∧x≤n - 1∧iP w' g A bs.length cap (m+2)∧w.grownBy w' (some g):=by
 by_cases h1:n≤1
 ·have h1' : (n:Int)≤1:=oM
  go_enter Tryz.func63,Tryz.ntmps63
  go_wp2
  go_ret
  exact ⟨0,rfl,oM,hc.mono oM,World.grownBy.refl w _⟩
 ·have h1' : ¬ (n:Int)≤1:=oM
  have hz:((n:Int) == 0)=false:=by rw [beq_eq_false_iff_ne]; omega
  have Ga:(n:Int) ≠ 0:=oM
  by_cases h2:n≤200
  ·go_enter Tryz.func63,Tryz.ntmps63
   go_wp2_with fail
   refine (nO g A cap m bs _ oM hc hr).mono ?_
   rintro e w1 ⟨b,rfl,hb,zG,zX⟩
   go_wp2
   go_ret
   refine ⟨b % n,by rw [Int.natCast_emod]; rfl, ?_,zG.mono oM,zX⟩
   have:=Nat.mod_lt b (show 0 < n by omega)
   omega
  ·go_enter Tryz.func63,Tryz.ntmps63
   go_wp2_with fail
   refine (nO g A cap m bs _ oM hc hr).mono ?_
   rintro e w1 ⟨b,rfl,hb,zG,zX⟩
   go_wp2_with fail
   refine (nO g A cap (m+1) bs _ oM zG (hr.grown zX nR hc.lt)).mono ?_
   rintro e w2 ⟨b2,rfl,xn,Gb,ym⟩
   go_wp2
   go_ret
   refine ⟨(b * 256+b2) % n,by rw [Int.natCast_emod]; rfl, ?_,Gb,aA zX ym⟩
   have:=Nat.mod_lt (b * 256+b2) (show 0 < n by omega)
   omega
theorem wa (g:Nat) (A:Option Addr) (cap m n:Nat) (bs:List UInt8) (w:World) (hn:n≤100000) (hm:m≤900000000) (hc:iP w g A bs.length cap m) (hr:gB w g A bs) :
  Calls xi 62 #[.pointer (some ⟨g,0,none⟩),O U n] w fun e w'=>∃ x:Bool,e=.returned (.bool x)∧iP w' g A bs.length cap (m+2)∧w.grownBy w' (some g):=by
 go_enter Tryz.func62,Tryz.ntmps62
 go_wp2_with fail
 refine (nP g A cap m n bs _ hn hm hc hr).mono ?_
 rintro e w1 ⟨b,rfl,hb,zG,zX⟩
 go_wp2
 go_ret
 exact ⟨_,rfl,zG,zX⟩
theorem mg (g:Nat) (A A' : Option Addr) (cap c' m:Nat) (bs:List UInt8) (l:List Int) (w:World) (hl:0 < l.length) (hl' : l.length≤100000) (hm:m≤900000000) (hc:iP w g A bs.length cap m) (hr:gB w g A bs) (hi:iS w w.heap.size A' l) (xw:A'.map (·.block) ≠ some g) :
  Calls xi 73 #[.pointer (some ⟨g,0,none⟩),F A' l.length c'] w fun e w'=>∃ x:Int,e=.returned (O U x)∧x ∈ l∧iP w' g A bs.length cap (m+2)∧w.grownBy w' (some g):=by
 obtain ⟨b,off,rfl,hb,hcell⟩:=hi.at_ hl
 go_enter Tryz.func73,Tryz.ntmps73
 go_wp2_with fail
 refine (nP g A cap m l.length bs _ hl' hm hc hr).mono ?_
 rintro e w1 ⟨x,rfl,hx,zG,zX⟩
 have xu:x < l.length:=oM
 have kc:w1.cell? ⟨b,off+x,none⟩=some (O U l[x]):=by
  rw [fc zX _ hb (by simpa using xw)]; exact hcell x _ (by simp [xu])
 have Bi:l[x] ∈ l:=List.getElem_mem xu
 generalize l[x]=y at kc Bi
 go_wp2
 go_ret
 exact ⟨y,rfl,Bi,zG,zX⟩
structure fb (w W:World) (g:Nat) (A:Option Addr) (bs:List UInt8) (cap m:Nat):Prop where
 cur:iP W g A bs.length cap m
 rd:gB W g A bs
 gr:w.grownBy W (some g)
section
variable {w W:World} {g:Nat} {A:Option Addr} {bs:List UInt8} {cap m:Nat}
theorem cr {a w:World} {row:Option Nat} (h:a.grownBy w row) (o:Obj):a.grownBy (w.alloc o) row:=aA h (World.grownBy_alloc w o row)
theorem iP.alloc {n:Nat} (h:iP W g A n cap m) (o:Obj):iP (W.alloc o) g A n cap m:=by
 obtain ⟨p,s,h1,h2⟩:=h
 exact ⟨p,s,h1.alloc o,h2⟩
theorem iP.kept {W' : World} {n:Nat} {row:Option Nat} (h:iP W g A n cap m) (hb:W.grownBy W' row) (xw:some g ≠ row):iP W' g A n cap m:=by
 obtain ⟨p,s,h1,h2⟩:=h
 exact ⟨p,s,h1.kept hb xw,h2⟩
theorem fb.alloc (E:fb w W g A bs cap m) (o:Obj):fb w (W.alloc o) g A bs cap m :=
 ⟨E.cur.alloc o,E.rd.grown (World.grownBy_alloc W o (some g)) nR E.cur.lt,cr E.gr o⟩
theorem fb.lt (E:fb w W g A bs cap m):g < W.heap.size:=E.cur.lt
theorem fb.wrote {W' : World} {h:Nat} (E:fb w W g A bs cap m) (hb:W.grownBy W' (some h)) (hw:w.heap.size≤h) (NU:g < h):fb w W' g A bs cap m :=
  ⟨E.cur.kept hb iE, E.rd.keep fun p hp => fc hb p (by have := E.lt; omega) iE,
   ⟨hb.os.trans E.gr.os, hb.tape.trans E.gr.tape, hb.output.trans E.gr.output, jT E.gr.size hb.size, fun j hj hn => (hb.block j (jL hj E.gr.size) iE).trans (E.gr.block j hj hn)⟩⟩
theorem fb.mono {m' : Nat} (E:fb w W g A bs cap m) (hm:m≤m'):fb w W g A bs cap m':=⟨E.cur.mono hm,E.rd,E.gr⟩
theorem fb.next {W' : World} {m' : Nat} (E:fb w W g A bs cap m) (hc:iP W' g A bs.length cap m') (hg:W.grownBy W' (some g)):fb w W' g A bs cap m' :=
 ⟨hc,E.rd.grown hg nR E.lt,aA E.gr hg⟩
theorem fb.start (hc:iP w g A bs.length cap m) (hr:gB w g A bs):fb w w g A bs cap m:=⟨hc,hr,World.grownBy.refl w _⟩
theorem dp (E:fb w W g A bs cap m) (n:Nat) (hn:n≤100000) (hm:m≤900000000) :
  Calls xi 63 #[.pointer (some ⟨g,0,none⟩),O U n] W fun e w'=>∃ x:Nat,e=.returned (O U x)∧x≤n - 1∧fb w w' g A bs cap (m+2)∧W.grownBy w' (some g) :=
 (nP g A cap m n bs W hn hm E.cur E.rd).mono fun _ _ ⟨x,he,hx,hc,hg⟩=>⟨x,he,hx,E.next hc hg,hg⟩
theorem jC (E:fb w W g A bs cap m) (n:Nat) (hn:n≤100000) (hm:m≤900000000) :
  Calls xi 62 #[.pointer (some ⟨g,0,none⟩),O U n] W fun e w'=>∃ x:Bool,e=.returned (.bool x)∧fb w w' g A bs cap (m+2)∧W.grownBy w' (some g) :=
 (wa g A cap m n bs W hn hm E.cur E.rd).mono fun _ _ ⟨x,he,hc,hg⟩=>⟨x,he,E.next hc hg,hg⟩
theorem kA (E:fb w W g A bs cap m) (l:List Int) (k:Nat) (hk:l.length=k) (vs:Array Value) (hv:vs.toList=bj l) (hl:0 < k) (hl' : k≤100000) (hm:m≤900000000) :
  Calls xi 73 #[.pointer (some ⟨g,0,none⟩),F (some ⟨W.heap.size,0,none⟩) k k] (W.alloc (.cells vs 3)) fun e w'=>∃ x:Int,e=.returned (O U x)∧x ∈ l∧fb w w' g A bs cap (m+2)∧W.grownBy w' (some g):=by
 subst hk
 have E1:=E.alloc (.cells vs 3)
 have hL:=ai.new W 3 vs
 rw [hv] at hL
 have hi:iS (W.alloc (.cells vs 3)) (W.alloc (.cells vs 3)).heap.size (some ⟨W.heap.size,0,none⟩) l:=hL.reads (jk l) oM
 refine (mg g A _ cap _ m bs l _ hl hl' hm E1.cur E1.rd hi (by have:=E.lt; intro e; injection e with e; simp only at e; omega)).mono ?_
 rintro e w' ⟨x,he,hx,hc,hg⟩
 exact ⟨x,he,hx,E1.next hc hg,aA (World.grownBy_alloc W _ _) hg⟩
end
section
variable {P:Program} {ops:Array Oper} {Q:Exit→Act→World→Prop} {md:Region.Mode}
def ax (vs:Nat→Value):List Oper→Nat→Act→Act
 | [],_,a=>a
 | o :: l,k,a=>ax vs l (k+1) (a.put o.dst (vs k))
def eB:List Oper→Bool
 | []=>true
 | o :: l=>l.all (fun p=>match o.dst with | none=>true | some d=>p.dst != some d) && eB l
def r3 (vs:Nat→Value) (i:Nat) (v:Value):Nat→Value:=fun j=>if j=i then v else vs j
theorem mS (vs:Nat→Value) {d:Option Tmp} {v:Value} : ∀ (l:List Oper) (k:Nat) (a:Act),(∀ p ∈ l,∀ t,d=some t→p.dst ≠ some t)→(ax vs l k a).put d v=ax vs l k (a.put d v)
 | [],_,_,_=>rfl
 | o :: l,k,a,h=>by
  unfold ax
  rw [mS vs l (k+1) _ (fun p hp=>h p (List.mem_cons_of_mem _ hp))]
  rw [Act.put_comm a (vs k) v (x:=o.dst) (y:=d) (fun t ht hd=>h o sP t hd ht)]
theorem kT {vs vs' : Nat→Value} : ∀ (l:List Oper) (k:Nat) (a:Act),(∀ j,k≤j→vs j=vs' j)→ax vs l k a=ax vs' l k a
 | [],_,_,_=>rfl
 | o :: l,k,a,h=>by
  unfold ax
  rw [h k nR,kT l (k+1) _ (fun j hj=>h j oM)]
theorem Act.put_put (a:Act) (d:Option Tmp) (u v:Value):(a.put d u).put d v=a.put d v:=by
 cases d with
 | none=>rfl
 | some d =>
  simp only [Act.put]
  congr 1
  apply Array.ext sP
  intro i h1 h2
  simp
theorem iT:∀ (l:List Oper) (k:Nat) (a:Act) (vs:Nat→Value) (i:Nat) (o:Oper) (v:Value),eB l=true→l[i]?=some o →
  (ax vs l k a).put o.dst v=ax (r3 vs (k+i) v) l k a
 | [],_,_,_,_,_,_,_,h=>by simp at h
 | p :: l,k,a,vs,0,o,v,hd,h=>by
  simp only [List.getElem?_cons_zero,Option.some.injEq] at h; subst h
  simp only [eB,Bool.and_eq_true,List.all_eq_true] at hd
  unfold ax
  rw [mS vs l (k+1) _ (fun q hq t ht=>by
   have:=hd.1 q hq; rw [ht] at this; simpa using this),Act.put_put]
  rw [kT (vs:=vs) (vs':=r3 vs (k+0) v) l (k+1) _ (fun j hj=>by unfold r3; rw [if_neg oM])]
  congr 2
  simp [r3]
 | p :: l,k,a,vs,i+1,o,v,hd,h=>by
  simp only [eB,Bool.and_eq_true] at hd
  unfold ax
  rw [iT l (k+1) _ vs i o v hd.2 (by simpa using h)]
  have:k+1+i=k+(i+1):=oM
  rw [this]
  congr 2
  unfold r3; rw [if_neg oM]
theorem Act.put_self (a:Act) (t:Tmp) (u:Value):a.put (some t) (a.tmps.getD t u)=a:=by
 simp only [Act.put]
 obtain ⟨tmps,defers⟩:=a
 congr 1
 apply Array.ext_getElem?
 intro i
 by_cases e:t=i
 ·subst e
  by_cases h2:t < tmps.size
  ·simp [h2]
  ·simp [h2]
 ·rw [Array.getElem?_setIfInBounds_ne e]
theorem ie (vs:Nat→Value):∀ (l:List Oper) (k:Nat) (a:Act),(∀ i o t,l[i]?=some o→o.dst=some t→vs (k+i)=a.tmps.getD t undef)→ax vs l k a=a
 | [],_,_,_=>rfl
 | o :: l,k,a,h=>by
  unfold ax
  have e:a.put o.dst (vs k)=a:=by
   cases hd:o.dst with
   | none=>rfl
   | some t =>
    have h0:=h 0 o t sP hd
    rw [Nat.add_zero] at h0
    rw [h0,Act.put_self]
  rw [e]
  exact ie vs l (k+1) a (fun i o' t h1 h2=>by
   have:=h (i+1) o' t (by simpa using h1) h2
   rwa [show k+(i+1)=k+1+i by omega] at this)
def bU (md:Region.Mode) (ops:Array Oper):Nat→Nat→Nat→Bool
 | 0,_,_=>false
 | fuel+1,k,j=>match ops[k]? with
  | none=>false
  | some o=>o.after.any fun e=>Region.binds md e && (e.on == j || bU md ops fuel e.on j)
def fR (md:Region.Mode) (ops:Array Oper):Bool :=
 (List.range ops.size).all fun k=>match ops[k]? with
  | none=>true
  | some o=>o.after.all fun e=>!Region.binds md e || decide (e.on < k)
def pS (md:Region.Mode) (ops:Array Oper) (listed:Array Bool):Prop :=
 ∀ j o,ops[j]?=some o→listed.getD j false=true→∀ e ∈ o.after,Region.binds md e=true→listed.getD e.on false=true
theorem cK {listed:Array Bool} (hc:pS md ops listed):∀ (fuel k j:Nat),(∀ o,ops[k]?=some o→∀ e ∈ o.after,Region.binds md e=true→listed.getD e.on false=true)→bU md ops fuel k j=true→listed.getD j false=true
 | 0,_,_,_,h=>by simp [bU] at h
 | fuel+1,k,j,hk,h=>by
  unfold bU at h
  cases ho:ops[k]? with
  | none=>simp [ho] at h
  | some o =>
   simp only [ho] at h
   obtain ⟨e,he,hb⟩:=Array.any_eq_true'.1 h
   simp only [Bool.and_eq_true,Bool.or_eq_true,beq_iff_eq] at hb
   have h1:=hk o ho e he hb.1
   rcases hb.2 with h2 | h2
   ·rw [← h2]; exact h1
   ·exact cK hc fuel e.on j (fun o' ho'=>hc e.on o' ho' h1) h2
def iU (P:Program) (ops:Array Oper) (Q:Exit→Act→World→Prop) (C:World→Prop) (T:World→World→Prop) (fr:(Nat→Value)→Act):Nat→List Oper→List (Value→World→Prop)→Prop
 | _,[],Rs=>∀ vs w,C w→(∀ (j:Nat) (R:Value→World→Prop),Rs[j]?=some R→R (vs j) w)→Q .normal (fr vs) w
 | k,o :: l,Rs=>∃ R:Value→World→Prop,(∀ v w w',R v w→T w w'→R v w') ∧
  (∀ vs w,C w→(∀ (j:Nat) (R' : Value→World→Prop),bU .any ops ops.size k j=true→Rs[j]?=some R'→R' (vs j) w)→∀ K:Act→World→Prop,(∀ a' v w',a'=(fr vs).put o.dst v→R v w'→C w'→T w w'→K a' w') →
   if Region.wanted o (yielded ops (fr vs).tmps)=true then o.wp P (fr vs) w K Q else K ((fr vs).put o.dst undef) w) ∧
  iU P ops Q C T fr (k+1) l (Rs++[R])
theorem mT {C:World→Prop} {T:World→World→Prop} {fr:(Nat→Value)→Act} : ∀ (l:List Oper) (k:Nat) (Rs:List (Value→World→Prop)),(∀ i,l[i]?=ops[k+i]?)→Rs.length=k →
  (∀ (j:Nat) (R:Value→World→Prop),Rs[j]?=some R→∀ v w w',R v w→T w w'→R v w') →
  (∀ (j:Nat) (o:Oper) (R:Value→World→Prop),j < k→ops[j]?=some o→Rs[j]?=some R→∀ vs w,C w→(∀ (j' : Nat) (R' : Value→World→Prop),bU .any ops ops.size j j'=true→j' < j→Rs[j']?=some R'→R' (vs j') w)→∀ K:Act→World→Prop,(∀ a' v w',a'=(fr vs).put o.dst v→R v w'→C w'→T w w'→K a' w') →
   if Region.wanted o (yielded ops (fr vs).tmps)=true then o.wp P (fr vs) w K Q else K ((fr vs).put o.dst undef) w) →
  iU P ops Q C T fr k l Rs →
  ∃ Rs' : List (Value→World→Prop),Rs'.length=k+l.length∧(∀ (j:Nat) (R:Value→World→Prop),Rs'[j]?=some R→∀ v w w',R v w→T w w'→R v w') ∧
  (∀ (j:Nat) (o:Oper) (R:Value→World→Prop),ops[j]?=some o→Rs'[j]?=some R→∀ vs w,C w→(∀ (j' : Nat) (R' : Value→World→Prop),bU .any ops ops.size j j'=true→j' < j→Rs'[j']?=some R'→R' (vs j') w)→∀ K:Act→World→Prop,(∀ a' v w',a'=(fr vs).put o.dst v→R v w'→C w'→T w w'→K a' w') →
   if Region.wanted o (yielded ops (fr vs).tmps)=true then o.wp P (fr vs) w K Q else K ((fr vs).put o.dst undef) w) ∧
  (∀ vs w,C w→(∀ (j:Nat) (R:Value→World→Prop),Rs'[j]?=some R→R (vs j) w)→Q .normal (fr vs) w)
 | [],k,Rs,hl,xt,xM,BE,h=>by
  refine ⟨Rs,by simpa using xt,xM,fun j o R ho hR=>BE j o R ?_ ho hR,h⟩
  rw [← xt]; exact (List.getElem?_eq_some_iff.1 hR).1
 | o :: l,k,Rs,hl,xt,xM,BE,h=>by
  obtain ⟨R,Gs,Gt,hrest⟩:=h
  have ho:ops[k]?=some o:=by simpa using (hl 0).symm
  have hold:∀ j,j < k→(Rs++[R])[j]?=Rs[j]?:=fun j hj=>List.getElem?_append_left oM
  have zb:(Rs++[R])[k]?=some R:=by rw [List.getElem?_append_right oM,xt]; simp
  obtain ⟨Rs',h1,h2,h3,h4⟩:=mT l (k+1) (Rs++[R]) (fun i=>by have:=hl (i+1); simpa [Nat.add_assoc,Nat.add_comm 1 i] using this) (by simp [xt])
   (fun j R' xX=>by
    rcases Nat.lt_trichotomy j k with hj | hj | hj
    ·rw [hold j hj] at xX; exact xM j R' xX
    ·subst hj; rw [zb] at xX; cases xX; exact Gs
    ·rw [List.getElem?_eq_none (by simp [xt]; omega)] at xX; cases xX)
   (fun j o' R' hj ho' xX vs w hC hB K hK=>by
    rcases Nat.lt_or_ge j k with CY | CY
    ·rw [hold j CY] at xX
     exact BE j o' R' CY ho' xX vs w hC (fun j' R'' ha xu h''=>hB j' R'' ha xu (by rw [hold j' oM]; exact h'')) K hK
    ·obtain rfl:j=k:=oM
     rw [ho] at ho'; cases ho'
     rw [zb] at xX; cases xX
     refine Gt vs w hC (fun j' R'' ha h''=>?_) K hK
     have xu:j' < Rs.length:=(List.getElem?_eq_some_iff.1 h'').1
     exact hB j' R'' ha oM (by rw [hold j' oM]; exact h''))
   hrest
  exact ⟨Rs',by rw [h1]; simp; omega,h2,h3,h4⟩
theorem ig {listed:Array Bool} (BF:fR .any ops=true) (xY:listed.size=ops.size) (hr:Region.ready .any ops listed = []):∀ j,j < ops.size→listed.getD j false=true:=by
 intro j
 induction j using Nat.strongRecOn with
 | ind j ih =>
  intro hj
  rcases hb:listed.getD j false with _ | _
  ·exfalso
   have Bi:j ∈ Region.ready .any ops listed:=by
    rw [mem_ready]
    refine ⟨?_,ops[j],Array.getElem?_eq_getElem hj,fun e he BO=>?_⟩
    ·have:j < listed.size:=oM
     simp only [Array.getD,this,↓reduceDIte] at hb ⊢
     exact hb
    ·have h1:=List.all_eq_true.1 BF j (List.mem_range.2 hj)
     rw [Array.getElem?_eq_getElem hj] at h1
     have h2:=Array.all_eq_true_iff_forall_mem.1 h1 e he
     simp only [BO,Bool.not_true,Bool.false_or,decide_eq_true_eq] at h2
     exact ih e.on h2 oM
   rw [hr] at Bi; cases Bi
  ·rfl
def eR (n:Nat) (listed:Array Bool):Nat:=((List.range n).filter fun j=>!listed.getD j false).length
theorem fo {n i:Nat} {listed:Array Bool} (hi:i < n) (hs:listed.size=n) (h:listed.getD i false=false):eR n (listed.setIfInBounds i true) < eR n listed:=by
 unfold eR
 have e:∀ l:List Nat,(l.filter fun j=>!(listed.setIfInBounds i true).getD j false)=(l.filter fun j=>!listed.getD j false).filter (fun j=>j != i):=by
  intro l
  rw [List.filter_filter]
  apply List.filter_congr
  intro j _
  by_cases zp:j=i
  ·subst zp; have:j < listed.size:=oM
   simp [this]
  ·rw [getD_set_ne false (Ne.symm zp)]; simp [zp]
 rw [e]
 have hm:i ∈ (List.range n).filter fun j=>!listed.getD j false:=List.mem_filter.2 ⟨List.mem_range.2 hi,by rw [h]; rfl⟩
 generalize (List.range n).filter (fun j=>!listed.getD j false)=l at hm
 clear e
 induction l with
 | nil=>cases hm
 | cons x l ih =>
  rw [List.filter_cons]
  split
  ·rename_i hx
   rcases List.mem_cons.1 hm with h' | h'
   ·simp [h'] at hx
   ·simpa using ih h'
  ·exact Nat.lt_succ_of_le (List.length_filter_le _ _)
theorem qG {C:World→Prop} {T:World→World→Prop} {a₀:Act} (AM:eB ops.toList=true) (BF:fR .any ops=true) (Rs:List (Value→World→Prop)) (xt:Rs.length=ops.size)
  (xM:∀ (j:Nat) (R:Value→World→Prop),Rs[j]?=some R→∀ v w w',R v w→T w w'→R v w')
  (BE:∀ (j:Nat) (o:Oper) (R:Value→World→Prop),ops[j]?=some o→Rs[j]?=some R→∀ vs w,C w→(∀ (j' : Nat) (R' : Value→World→Prop),bU .any ops ops.size j j'=true→j' < j→Rs[j']?=some R'→R' (vs j') w)→∀ K:Act→World→Prop,(∀ a' v w',a'=(ax vs ops.toList 0 a₀).put o.dst v→R v w'→C w'→T w w'→K a' w') →
   if Region.wanted o (yielded ops (ax vs ops.toList 0 a₀).tmps)=true then o.wp P (ax vs ops.toList 0 a₀) w K Q else K ((ax vs ops.toList 0 a₀).put o.dst undef) w)
  (EW:∀ vs w,C w→(∀ (j:Nat) (R:Value→World→Prop),Rs[j]?=some R→R (vs j) w)→Q .normal (ax vs ops.toList 0 a₀) w) :
  ∀ (fuel:Nat) (listed:Array Bool) (vs:Nat→Value) (w:World),listed.size=ops.size→eR ops.size listed≤fuel→pS .any ops listed→C w→(∀ (j:Nat) (R:Value→World→Prop),listed.getD j false=true→Rs[j]?=some R→R (vs j) w) →
   wpAny P .any ops Q fuel listed (ax vs ops.toList 0 a₀) w:=by
 have At:∀ (listed:Array Bool) (vs:Nat→Value) (w:World),listed.size=ops.size→C w→(∀ (j:Nat) (R:Value→World→Prop),listed.getD j false=true→Rs[j]?=some R→R (vs j) w)→Region.ready .any ops listed = []→Q .normal (ax vs ops.toList 0 a₀) w :=
  fun listed vs w hs hC hR hr=>EW vs w hC fun j R hj=>hR j R (ig BF hs hr j (by rw [← xt]; exact (List.getElem?_eq_some_iff.1 hj).1)) hj
 intro fuel
 induction fuel with
 | zero =>
  intro listed vs w hs hu yC hC hR
  have hr:Region.ready .any ops listed = []:=by
   rw [List.eq_nil_iff_forall_not_mem]
   intro j hj
   obtain ⟨h0,o,ho,_⟩:=mem_ready.1 hj
   have IB:j < ops.size:=(Array.getElem?_eq_some_iff.1 ho).1
   have:eR ops.size (listed.setIfInBounds j true) < eR ops.size listed:=fo IB hs (by
    have:j < listed.size:=oM
    simp only [Array.getD,this,↓reduceDIte] at h0 ⊢; exact h0)
   omega
  exact ⟨hr,At listed vs w hs hC hR hr⟩
 | succ fuel ih =>
  intro listed vs w hs hu yC hC hR
  refine ⟨At listed vs w hs hC hR,fun i hi=>?_⟩
  obtain ⟨h0,o,ho,yf⟩:=mem_ready.1 hi
  have CZ:i < ops.size:=(Array.getElem?_eq_some_iff.1 ho).1
  have zH:i < listed.size:=oM
  have h0' : listed.getD i false=false:=by simp only [Array.getD,zH,↓reduceDIte] at h0 ⊢; exact h0
  obtain ⟨R,EC⟩ : ∃ R,Rs[i]?=some R:=⟨Rs[i]'oM,List.getElem?_eq_getElem oM⟩
  have hstep:=BE i o R ho EC vs w hC (fun j' R' ha _ xX=>hR j' R' (cK yC ops.size i j' (fun o' ho'=>by rw [ho] at ho'; cases ho'; exact yf) ha) xX)
   (wpAny P .any ops Q fuel (listed.setIfInBounds i true)) (fun a' v w' ha Gu Da hT=>by
    rw [ha,iT ops.toList 0 a₀ vs i o v AM (by simpa using ho),Nat.zero_add]
    refine ih _ _ _ (by simpa using hs) ?_ ?_ Da ?_
    ·have:=fo CZ hs h0'; omega
    ·intro j oj Db hj e he hb
     by_cases zp:j=i
     ·subst zp; rw [ho] at Db; cases Db; exact getD_set_true (yf e he hb)
     ·rw [getD_set_ne false (Ne.symm zp)] at hj; exact getD_set_true (yC j oj Db hj e he hb)
    ·intro j R' hj xX
     by_cases zp:j=i
     ·subst zp; rw [EC] at xX; cases xX; simpa [r3] using Gu
     ·rw [getD_set_ne false (Ne.symm zp)] at hj
      have:=xM j R' xX _ _ _ (hR j R' hj xX) hT
      simpa [r3,zp] using this)
  unfold wpOp
  simp only [ho]
  split
  ·rename_i hw; rw [if_pos hw] at hstep; exact .inl hstep
  ·rename_i hw; rw [if_neg hw] at hstep; exact hstep
theorem hH {id:Nat} {a:Act} {w:World} {l:List Oper} (C:World→Prop) (T:World→World→Prop) (hm:P.follows .mixedOrders=true) (AM:eB l=true) (BF:fR .any l.toArray=true)
  (hC:C w.drew) (h:iU P l.toArray Q C T (fun vs=>ax vs l 0 a) 0 l []):(Code.region id l.toArray true).wp P Q a w:=by
 refine wp_region_any hm ?_
 obtain ⟨Rs,h1,h2,h3,h4⟩:=mT (ops:=l.toArray) l 0 [] sP rfl sP sP h
 obtain ⟨vs,Eb⟩ : ∃ vs:Nat→Value,∀ i o t,l[i]?=some o→o.dst=some t→vs (0+i)=a.tmps.getD t undef :=
  ⟨fun i=>match (l[i]?).bind (·.dst) with | some t=>a.tmps.getD t undef | none=>undef,fun i o t hi ht=>by simp [hi,ht]⟩
 have:=qG (P:=P) (Q:=Q) (ops:=l.toArray) (C:=C) (T:=T) (a₀:=a) AM BF Rs (by simpa using h1) h2 h3 h4 l.toArray.size (Array.replicate l.toArray.size false) vs w.drew sP
  (jT (List.length_filter_le _ _) sP) (fun j o hj hl=>by simp [Array.getD] at hl) hC (fun j R hl=>by simp [Array.getD] at hl)
 rwa [ie vs _ 0 a (by simpa using Eb)] at this
theorem ke {C:World→Prop} {T:World→World→Prop} {fr:(Nat→Value)→Act} {k:Nat} {Rs:List (Value→World→Prop)} (h:∀ vs w,C w→(∀ (j:Nat) (R:Value→World→Prop),Rs[j]?=some R→R (vs j) w)→Q .normal (fr vs) w):iU P ops Q C T fr k [] Rs:=h
theorem aJ {C:World→Prop} {T:World→World→Prop} {fr:(Nat→Value)→Act} {k:Nat} {o:Oper} {l:List Oper} {Rs:List (Value→World→Prop)} (V:Value)
  (h1:∀ vs w,C w→(∀ (j:Nat) (R' : Value→World→Prop),bU .any ops ops.size k j=true→Rs[j]?=some R'→R' (vs j) w)→∀ K:Act→World→Prop,(∀ a' w',a'=(fr vs).put o.dst V→C w'→T w w'→K a' w') →
   if Region.wanted o (yielded ops (fr vs).tmps)=true then o.wp P (fr vs) w K Q else K ((fr vs).put o.dst undef) w)
  (h2:iU P ops Q C T fr (k+1) l (Rs++[fun v _=>v=V])):iU P ops Q C T fr k (o :: l) Rs :=
 ⟨fun v _=>v=V,fun _ _ _ h _=>h,fun vs w hC hB K hK=>h1 vs w hC hB K fun a' w' ha Da hT=>hK a' V w' ha rfl Da hT,h2⟩
theorem jF {C:World→Prop} {T:World→World→Prop} {fr:(Nat→Value)→Act} {k:Nat} {o:Oper} {l:List Oper} {Rs:List (Value→World→Prop)} (R:Value→World→Prop) (hR:∀ v w w',R v w→T w w'→R v w')
  (h1:∀ vs w,C w→(∀ (j:Nat) (R' : Value→World→Prop),bU .any ops ops.size k j=true→Rs[j]?=some R'→R' (vs j) w)→∀ K:Act→World→Prop,(∀ a' v w',a'=(fr vs).put o.dst v→R v w'→C w'→T w w'→K a' w') →
   if Region.wanted o (yielded ops (fr vs).tmps)=true then o.wp P (fr vs) w K Q else K ((fr vs).put o.dst undef) w)
  (h2:iU P ops Q C T fr (k+1) l (Rs++[R])):iU P ops Q C T fr k (o :: l) Rs :=
 ⟨R,hR,h1,h2⟩
end
structure ah where
 D:Nat
 R:Value→Value→World→Prop
 Br:List Nat:=[]
def ah.at (f:ah) (vs:Nat→Value) (j:Nat) (w:World):Prop:=f.R (vs f.D) (vs j) w
def ah.firm (ops:Array Oper) (T:Nat→World→World→Prop) (j:Nat) (f:ah):Prop:=∀ i,i ≠ j→i ∉ f.Br→bU .any ops ops.size j i=false→∀ u v w w',f.R u v w→T i w w'→f.R u v w'
def ah.live (ops:Array Oper) (k:Nat) (f:ah):Bool:=f.Br.all fun i=>i == k || bU .any ops ops.size i k
def ah.fine (ops:Array Oper) (j:Nat) (f:ah):Prop:=(∀ u u' v w,f.R u v w→f.R u' v w) ∨ bU .any ops ops.size j f.D=true
theorem ah.eq {V:Value} {vs:Nat→Value} {j:Nat} {w:World} (h:ah.at ⟨0,fun _ v _=>v=V,[]⟩ vs j w):vs j=V:=h
structure kP (ops:Array Oper) (L:Nat→Bool) (k:Nat):Prop where
 self:L k=false
 done:∀ j,bU .any ops ops.size k j=true→L j=true
 open_:∀ j,bU .any ops ops.size j k=true→L j=false
def Listed.but (L:Nat→Bool) (k:Nat):Nat→Bool:=fun j=>if j=k then true else L j
section
variable {P:Program} {ops:Array Oper} {Q:Exit→Act→World→Prop}
def fg (P:Program) (ops:Array Oper) (Q:Exit→Act→World→Prop) (C:(Nat→Bool)→World→Prop) (T:Nat→World→World→Prop) (fr:(Nat→Value)→Act):Nat→List Oper→List ah→Prop
 | _,[],Rs=>∀ vs L w,(∀ j,j < ops.size→L j=true)→C L w→(∀ (j:Nat) (R:ah),R.Br = []→Rs[j]?=some R→R.at vs j w)→Q .normal (fr vs) w
 | k,o :: l,Rs=>∃ R:ah,R.fine ops k∧R.firm ops T k ∧
  (∀ vs L w,kP ops L k→C L w→(∀ (j:Nat) (R' : ah),bU .any ops ops.size k j=true→R'.live ops k=true→Rs[j]?=some R'→R'.at vs j w)→∀ K:Act→World→Prop,(∀ a' v w',a'=(fr vs).put o.dst v→R.R (vs R.D) v w'→C (Listed.but L k) w'→T k w w'→K a' w') →
   if Region.wanted o (yielded ops (fr vs).tmps)=true then o.wp P (fr vs) w K Q else K ((fr vs).put o.dst undef) w) ∧
  fg P ops Q C T fr (k+1) l (Rs++[R])
theorem lB {C:(Nat→Bool)→World→Prop} {T:Nat→World→World→Prop} {fr:(Nat→Value)→Act} : ∀ (l:List Oper) (k:Nat) (Rs:List ah),(∀ i,l[i]?=ops[k+i]?)→Rs.length=k →
  (∀ (j:Nat) (R:ah),Rs[j]?=some R→R.fine ops j∧R.firm ops T j) →
  (∀ (j:Nat) (o:Oper) (R:ah),j < k→ops[j]?=some o→Rs[j]?=some R→∀ vs L w,kP ops L j→C L w→(∀ (j' : Nat) (R' : ah),bU .any ops ops.size j j'=true→R'.live ops j=true→j' < j→Rs[j']?=some R'→R'.at vs j' w)→∀ K:Act→World→Prop,(∀ a' v w',a'=(fr vs).put o.dst v→R.R (vs R.D) v w'→C (Listed.but L j) w'→T j w w'→K a' w') →
   if Region.wanted o (yielded ops (fr vs).tmps)=true then o.wp P (fr vs) w K Q else K ((fr vs).put o.dst undef) w) →
  fg P ops Q C T fr k l Rs →
  ∃ Rs' : List ah,Rs'.length=k+l.length∧(∀ (j:Nat) (R:ah),Rs'[j]?=some R→R.fine ops j∧R.firm ops T j) ∧
  (∀ (j:Nat) (o:Oper) (R:ah),ops[j]?=some o→Rs'[j]?=some R→∀ vs L w,kP ops L j→C L w→(∀ (j' : Nat) (R' : ah),bU .any ops ops.size j j'=true→R'.live ops j=true→j' < j→Rs'[j']?=some R'→R'.at vs j' w)→∀ K:Act→World→Prop,(∀ a' v w',a'=(fr vs).put o.dst v→R.R (vs R.D) v w'→C (Listed.but L j) w'→T j w w'→K a' w') →
   if Region.wanted o (yielded ops (fr vs).tmps)=true then o.wp P (fr vs) w K Q else K ((fr vs).put o.dst undef) w) ∧
  (∀ vs L w,(∀ j,j < ops.size→L j=true)→C L w→(∀ (j:Nat) (R:ah),R.Br = []→Rs'[j]?=some R→R.at vs j w)→Q .normal (fr vs) w)
 | [],k,Rs,hl,xt,xM,BE,h=>by
  refine ⟨Rs,by simpa using xt,xM,fun j o R ho hR=>BE j o R ?_ ho hR,h⟩
  rw [← xt]; exact (List.getElem?_eq_some_iff.1 hR).1
 | o :: l,k,Rs,hl,xt,xM,BE,h=>by
  obtain ⟨R,Mi,Gs,Gt,hrest⟩:=h
  have ho:ops[k]?=some o:=by simpa using (hl 0).symm
  have hold:∀ j,j < k→(Rs++[R])[j]?=Rs[j]?:=fun j hj=>List.getElem?_append_left oM
  have zb:(Rs++[R])[k]?=some R:=by rw [List.getElem?_append_right oM,xt]; simp
  obtain ⟨Rs',h1,h2,h3,h4⟩:=lB l (k+1) (Rs++[R]) (fun i=>by have:=hl (i+1); simpa [Nat.add_assoc,Nat.add_comm 1 i] using this) (by simp [xt])
   (fun j R' xX=>by
    rcases Nat.lt_trichotomy j k with hj | hj | hj
    ·rw [hold j hj] at xX; exact xM j R' xX
    ·subst hj; rw [zb] at xX; cases xX; exact ⟨Mi,Gs⟩
    ·rw [List.getElem?_eq_none (by simp [xt]; omega)] at xX; cases xX)
   (fun j o' R' hj ho' xX vs L w hG hC hB K hK=>by
    rcases Nat.lt_or_ge j k with CY | CY
    ·rw [hold j CY] at xX
     exact BE j o' R' CY ho' xX vs L w hG hC (fun j' R'' ha hv xu h''=>hB j' R'' ha hv xu (by rw [hold j' oM]; exact h'')) K hK
    ·obtain rfl:j=k:=oM
     rw [ho] at ho'; cases ho'
     rw [zb] at xX; cases xX
     refine Gt vs L w hG hC (fun j' R'' ha hv h''=>?_) K hK
     have xu:j' < Rs.length:=(List.getElem?_eq_some_iff.1 h'').1
     exact hB j' R'' ha hv oM (by rw [hold j' oM]; exact h''))
   hrest
  exact ⟨Rs',by rw [h1]; simp; omega,h2,h3,h4⟩
theorem kU {i:Nat} {listed:Array Bool} (h:i < listed.size):(listed.setIfInBounds i true).getD i false=true:=by simp [h]
theorem pT {C:(Nat→Bool)→World→Prop} {T:Nat→World→World→Prop} {a₀:Act} (AM:eB ops.toList=true) (BF:fR .any ops=true) (Rs:List ah) (xt:Rs.length=ops.size)
  (xM:∀ (j:Nat) (R:ah),Rs[j]?=some R→R.fine ops j∧R.firm ops T j)
  (BE:∀ (j:Nat) (o:Oper) (R:ah),ops[j]?=some o→Rs[j]?=some R→∀ vs L w,kP ops L j→C L w→(∀ (j' : Nat) (R' : ah),bU .any ops ops.size j j'=true→R'.live ops j=true→j' < j→Rs[j']?=some R'→R'.at vs j' w)→∀ K:Act→World→Prop,(∀ a' v w',a'=(ax vs ops.toList 0 a₀).put o.dst v→R.R (vs R.D) v w'→C (Listed.but L j) w'→T j w w'→K a' w') →
   if Region.wanted o (yielded ops (ax vs ops.toList 0 a₀).tmps)=true then o.wp P (ax vs ops.toList 0 a₀) w K Q else K ((ax vs ops.toList 0 a₀).put o.dst undef) w)
  (EW:∀ vs L w,(∀ j,j < ops.size→L j=true)→C L w→(∀ (j:Nat) (R:ah),R.Br = []→Rs[j]?=some R→R.at vs j w)→Q .normal (ax vs ops.toList 0 a₀) w) :
  ∀ (fuel:Nat) (listed:Array Bool) (vs:Nat→Value) (w:World),listed.size=ops.size→eR ops.size listed≤fuel→pS .any ops listed→C (fun j=>listed.getD j false) w→(∀ (j:Nat) (R:ah),listed.getD j false=true→(∀ i ∈ R.Br,listed.getD i false=false)→Rs[j]?=some R→R.at vs j w) →
   wpAny P .any ops Q fuel listed (ax vs ops.toList 0 a₀) w:=by
 have At:∀ (listed:Array Bool) (vs:Nat→Value) (w:World),listed.size=ops.size→C (fun j=>listed.getD j false) w→(∀ (j:Nat) (R:ah),listed.getD j false=true→(∀ i ∈ R.Br,listed.getD i false=false)→Rs[j]?=some R→R.at vs j w)→Region.ready .any ops listed = []→Q .normal (ax vs ops.toList 0 a₀) w :=
  fun listed vs w hs hC hR hr=>EW vs _ w (fun j hj=>ig BF hs hr j hj) hC fun j R zc hj=>hR j R (ig BF hs hr j (by rw [← xt]; exact (List.getElem?_eq_some_iff.1 hj).1)) (by rw [zc]; intro i hi; cases hi) hj
 intro fuel
 induction fuel with
 | zero =>
  intro listed vs w hs hu yC hC hR
  have hr:Region.ready .any ops listed = []:=by
   rw [List.eq_nil_iff_forall_not_mem]
   intro j hj
   obtain ⟨h0,o,ho,_⟩:=mem_ready.1 hj
   have IB:j < ops.size:=(Array.getElem?_eq_some_iff.1 ho).1
   have:eR ops.size (listed.setIfInBounds j true) < eR ops.size listed:=fo IB hs (by
    have:j < listed.size:=oM
    simp only [Array.getD,this,↓reduceDIte] at h0 ⊢; exact h0)
   omega
  exact ⟨hr,At listed vs w hs hC hR hr⟩
 | succ fuel ih =>
  intro listed vs w hs hu yC hC hR
  refine ⟨At listed vs w hs hC hR,fun i hi=>?_⟩
  obtain ⟨h0,o,ho,yf⟩:=mem_ready.1 hi
  have CZ:i < ops.size:=(Array.getElem?_eq_some_iff.1 ho).1
  have zH:i < listed.size:=oM
  have h0' : listed.getD i false=false:=by simp only [Array.getD,zH,↓reduceDIte] at h0 ⊢; exact h0
  obtain ⟨R,EC⟩ : ∃ R,Rs[i]?=some R:=⟨Rs[i]'oM,List.getElem?_eq_getElem oM⟩
  have Jn:∀ j,bU .any ops ops.size i j=true→listed.getD j false=true:=fun j ha=>cK yC ops.size i j (fun o' ho'=>by rw [ho] at ho'; cases ho'; exact yf) ha
  have Jo:∀ j,bU .any ops ops.size j i=true→listed.getD j false=false:=fun j ha=>by
   rcases hq:listed.getD j false with _ | _
   ·rfl
   ·have hl:=cK yC ops.size j i (fun o' ho'=>yC j o' ho' hq) ha
    rw [h0'] at hl; cases hl
  have hstep:=BE i o R ho EC vs (fun j=>listed.getD j false) w ⟨h0',Jn,Jo⟩ hC (fun j' R' ha hv _ xX=>hR j' R' (cK yC ops.size i j' (fun o' ho'=>by rw [ho] at ho'; cases ho'; exact yf) ha) (fun i' hi'=>by
    have hv':=List.all_eq_true.1 hv i' hi'
    simp only [Bool.or_eq_true,beq_iff_eq] at hv'
    rcases hv' with rfl | hv'
    ·exact h0'
    ·rcases hq:listed.getD i' false with _ | _
     ·rfl
     ·have hl:=cK yC ops.size i' i (fun o' ho'=>yC i' o' ho' hq) hv'
      rw [h0'] at hl; cases hl) xX)
   (wpAny P .any ops Q fuel (listed.setIfInBounds i true)) (fun a' v w' ha Gu Da hT=>by
    rw [ha,iT ops.toList 0 a₀ vs i o v AM (by simpa using ho),Nat.zero_add]
    have xj:C (fun j=>(listed.setIfInBounds i true).getD j false) w':=by
     have e:(fun j=>(listed.setIfInBounds i true).getD j false)=Listed.but (fun j=>listed.getD j false) i:=by
      funext j
      unfold Listed.but
      by_cases e:j=i
      ·subst e; rw [if_pos rfl]; exact kU zH
      ·rw [if_neg e]; exact getD_set_ne false (Ne.symm e)
     rw [e]; exact Da
    refine ih _ _ _ (by simpa using hs) ?_ ?_ xj ?_
    ·have:=fo CZ hs h0'; omega
    ·intro j oj Db hj e he hb
     by_cases zp:j=i
     ·subst zp; rw [ho] at Db; cases Db; exact getD_set_true (yf e he hb)
     ·rw [getD_set_ne false (Ne.symm zp)] at hj; exact getD_set_true (yC j oj Db hj e he hb)
    ·intro j R' hj zc xX
     have key:∀ (u' : Value),R'.R (vs R'.D) u' w'→R'.R (r3 vs i v R'.D) u' w':=fun u' h=>by
      by_cases Ld:R'.D=i
      ·rcases (xM j R' xX).1 with hf | ha
       ·exact hf _ _ _ _ h
       ·exfalso
        have hl:listed.getD R'.D false=true:=by
         by_cases zp:j=i
         ·subst zp; exact cK yC ops.size j _ (fun o' ho'=>by rw [ho] at ho'; cases ho'; exact yf) ha
         ·rw [getD_set_ne false (Ne.symm zp)] at hj
          exact cK yC ops.size j _ (fun o' ho'=>yC j o' ho' hj) ha
        rw [Ld,h0'] at hl; cases hl
      ·have:r3 vs i v R'.D=vs R'.D:=by unfold r3; rw [if_neg Ld]
       rw [this]; exact h
     unfold ah.at
     by_cases zp:j=i
     ·subst zp; rw [EC] at xX; cases xX
      have:r3 vs j v j=v:=by unfold r3; rw [if_pos rfl]
      rw [this]
      exact key v Gu
     ·rw [getD_set_ne false (Ne.symm zp)] at hj
      have Mj:bU .any ops ops.size j i=false:=by
       rcases hq:bU .any ops ops.size j i with _ | _
       ·rfl
       ·have hl:=cK yC ops.size j i (fun o' ho'=>yC j o' ho' hj) hq
        rw [h0'] at hl; cases hl
      have Lf:i ∉ R'.Br:=fun hm=>by have h1:=zc i hm; rw [kU zH] at h1; cases h1
      have hbr' : ∀ i' ∈ R'.Br,listed.getD i' false=false:=fun i' hm=>by
       have h1:=zc i' hm
       by_cases e:i'=i
       ·subst e; exact absurd hm Lf
       ·rwa [getD_set_ne false (Ne.symm e)] at h1
      have h3:=(xM j R' xX).2 i (Ne.symm zp) Lf Mj _ _ _ _ (hR j R' hj hbr' xX) hT
      have:r3 vs i v j=vs j:=by unfold r3; rw [if_neg zp]
      rw [this]
      refine key _ ?_
      exact h3)
  unfold wpOp
  simp only [ho]
  split
  ·rename_i hw; rw [if_pos hw] at hstep; exact .inl hstep
  ·rename_i hw; rw [if_neg hw] at hstep; exact hstep
theorem mh {id:Nat} {a:Act} {w:World} {l:List Oper} (C:(Nat→Bool)→World→Prop) (T:Nat→World→World→Prop) (hm:P.follows .mixedOrders=true) (AM:eB l=true) (BF:fR .any l.toArray=true)
  (hC:C (fun _=>false) w.drew) (h:fg P l.toArray Q C T (fun vs=>ax vs l 0 a) 0 l []):(Code.region id l.toArray true).wp P Q a w:=by
 refine wp_region_any hm ?_
 obtain ⟨Rs,h1,h2,h3,h4⟩:=lB (ops:=l.toArray) l 0 [] sP rfl sP sP h
 obtain ⟨vs,Eb⟩ : ∃ vs:Nat→Value,∀ i o t,l[i]?=some o→o.dst=some t→vs (0+i)=a.tmps.getD t undef :=
  ⟨fun i=>match (l[i]?).bind (·.dst) with | some t=>a.tmps.getD t undef | none=>undef,fun i o t hi ht=>by simp [hi,ht]⟩
 have:=pT (P:=P) (Q:=Q) (ops:=l.toArray) (C:=C) (T:=T) (a₀:=a) AM BF Rs (by simpa using h1) h2 h3 h4 l.toArray.size (Array.replicate l.toArray.size false) vs w.drew sP
  (jT (List.length_filter_le _ _) sP) (fun j o hj hl=>by simp [Array.getD] at hl) (by
   have e:(fun j=>(Array.replicate l.toArray.size false).getD j false)=fun _=>false:=by funext j; simp [Array.getD]
   rw [e]; exact hC) (fun j R hl=>by simp [Array.getD] at hl)
 rwa [ie vs _ 0 a (by simpa using Eb)] at this
end
def Sw (s:Nat) (C0 C1:World→Prop) (L:Nat→Bool) (w:World):Prop:=if L s=true then C1 w else C0 w
section
variable {ops:Array Oper} {s k:Nat} {C0 C1:World→Prop} {L:Nat→Bool} {w w' : World}
theorem Sw.start (h:C0 w):Sw s C0 C1 (fun _=>false) w:=by unfold Sw; rw [if_neg sP]; exact h
theorem Sw.before (hG:kP ops L k) (ha:bU .any ops ops.size s k=true) (h:Sw s C0 C1 L w):C0 w:=by
 unfold Sw at h; rwa [if_neg (by rw [hG.open_ s ha]; simp)] at h
theorem Sw.stay (hG:kP ops L k) (ha:bU .any ops ops.size s k=true) (xw:s ≠ k) (h:C0 w):Sw s C0 C1 (Listed.but L k) w:=by
 unfold Sw Listed.but; rw [if_neg (by rw [if_neg xw,hG.open_ s ha]; simp)]; exact h
theorem Sw.here (hG:kP ops L s) (h:Sw s C0 C1 L w):C0 w:=by unfold Sw at h; rwa [if_neg (by rw [hG.self]; simp)] at h
theorem Sw.turn (h:C1 w):Sw s C0 C1 (Listed.but L s) w:=by unfold Sw Listed.but; rw [if_pos (if_pos rfl)]; exact h
theorem Sw.after (hG:kP ops L k) (ha:bU .any ops ops.size k s=true) (h:Sw s C0 C1 L w):C1 w:=by unfold Sw at h; rwa [if_pos (hG.done s ha)] at h
theorem Sw.on (hG:kP ops L k) (ha:bU .any ops ops.size k s=true) (h:C1 w):Sw s C0 C1 (Listed.but L k) w:=by
 unfold Sw Listed.but; rw [if_pos (by rw [hG.done s ha]; simp)]; exact h
theorem Sw.both (xw:s ≠ k) (h0:C0 w→C0 w') (h1:C1 w→C1 w') (h:Sw s C0 C1 L w):Sw s C0 C1 (Listed.but L k) w':=by
 unfold Sw Listed.but at *
 rw [if_neg xw]
 split at h
 ·rename_i e; rw [if_pos e]; exact h1 h
 ·rename_i e; rw [if_neg e]; exact h0 h
theorem Sw.done (hL:∀ j,j < ops.size→L j=true) (hs:s < ops.size) (h:Sw s C0 C1 L w):C1 w:=by unfold Sw at h; rwa [if_pos (hL s hs)] at h
end
section
variable {P:Program} {ops:Array Oper} {Q:Exit→Act→World→Prop}
def fF (P:Program) (ops:Array Oper) (Q:Exit→Act→World→Prop) (C:(Nat→Bool)→World→Prop) (T:Nat→World→World→Prop) (fr:(Nat→Value)→Act):Nat→List Oper→List ah→Prop
 | k,[],Rs=>∀ vs L w,(∀ j,j < ops.size→L j=true)→C L w→(∀ (j:Nat) (R:ah),R.Br = []→Rs[k - 1 - j]?=some R→j < k→R.at vs j w)→Q .normal (fr vs) w
 | k,o :: l,Rs=>∃ R:ah,R.fine ops k∧R.firm ops T k ∧
  (∀ vs L w,kP ops L k→C L w→(∀ (j:Nat) (R' : ah),bU .any ops ops.size k j=true→R'.live ops k=true→Rs[k - 1 - j]?=some R'→j < k→R'.at vs j w)→∀ K:Act→World→Prop,(∀ a' v w',a'=(fr vs).put o.dst v→R.R (vs R.D) v w'→C (Listed.but L k) w'→T k w w'→K a' w') →
   if Region.wanted o (yielded ops (fr vs).tmps)=true then o.wp P (fr vs) w K Q else K ((fr vs).put o.dst undef) w) ∧
  fF P ops Q C T fr (k+1) l (R :: Rs)
theorem qH {Rs:List ah} {k j:Nat} {R:ah} (hk:Rs.length=k) (h:Rs[k - 1 - j]?=some R) (hj:j < k):Rs.reverse[j]?=some R:=by
 rw [List.getElem?_reverse oM,hk]; exact h
theorem nQ {C:(Nat→Bool)→World→Prop} {T:Nat→World→World→Prop} {fr:(Nat→Value)→Act} : ∀ (l:List Oper) (k:Nat) (Rs:List ah),Rs.length=k→fF P ops Q C T fr k l Rs→fg P ops Q C T fr k l Rs.reverse
 | [],_,_,hk,h=>fun vs L w hL hC hB=>h vs L w hL hC fun j R hb hR hj=>hB j R hb (qH hk hR hj)
 | _ :: l,k,Rs,hk,⟨R,h1,h2,h3,h4⟩=>⟨R,h1,h2,fun vs L w hG hC hB K hK=>h3 vs L w hG hC (fun j R' ha hv hR hj=>hB j R' ha hv (qH hk hR hj)) K hK,by
   have:=nQ l (k+1) (R :: Rs) (by simp [hk]) h4
   rwa [List.reverse_cons] at this⟩
theorem al {id:Nat} {a:Act} {w:World} {l:List Oper} (C:(Nat→Bool)→World→Prop) (T:Nat→World→World→Prop) (hm:P.follows .mixedOrders=true) (AM:eB l=true) (BF:fR .any l.toArray=true)
  (hC:C (fun _=>false) w.drew) (h:fF P l.toArray Q C T (fun vs=>ax vs l 0 a) 0 l []):(Code.region id l.toArray true).wp P Q a w :=
 mh C T hm AM BF hC (nQ l 0 [] rfl h)
theorem au {C:(Nat→Bool)→World→Prop} {T:Nat→World→World→Prop} {fr:(Nat→Value)→Act} {k:Nat} {Rs:List ah} (h:∀ vs L w,(∀ j,j < ops.size→L j=true)→C L w→(∀ (j:Nat) (R:ah),R.Br = []→Rs[k - 1 - j]?=some R→j < k→R.at vs j w)→Q .normal (fr vs) w):fF P ops Q C T fr k [] Rs:=h
theorem aa {C:(Nat→Bool)→World→Prop} {T:Nat→World→World→Prop} {fr:(Nat→Value)→Act} {k:Nat} {o:Oper} {l:List Oper} {Rs:List ah} (V:Value)
  (h1:∀ vs L w,kP ops L k→C L w→(∀ (j:Nat) (R' : ah),bU .any ops ops.size k j=true→R'.live ops k=true→Rs[k - 1 - j]?=some R'→j < k→R'.at vs j w)→∀ K:Act→World→Prop,(∀ a' w',a'=(fr vs).put o.dst V→C (Listed.but L k) w'→T k w w'→K a' w') →
   if Region.wanted o (yielded ops (fr vs).tmps)=true then o.wp P (fr vs) w K Q else K ((fr vs).put o.dst undef) w)
  (h2:fF P ops Q C T fr (k+1) l (⟨0,fun _ v _=>v=V,[]⟩ :: Rs)):fF P ops Q C T fr k (o :: l) Rs :=
 ⟨⟨0,fun _ v _=>v=V,[]⟩,.inl (fun _ _ _ _ h=>h),fun _ _ _ _ _ _ _ _ h _=>h,fun vs L w hG hC hB K hK=>h1 vs L w hG hC hB K fun a' w' ha Da hT=>hK a' V w' ha rfl Da hT,h2⟩
theorem af {C:(Nat→Bool)→World→Prop} {T:Nat→World→World→Prop} {fr:(Nat→Value)→Act} {k:Nat} {o:Oper} {l:List Oper} {Rs:List ah} (Br:List Nat) (R:Value→World→Prop) (hR:∀ i,i ≠ k→i ∉ Br→bU .any ops ops.size k i=false→∀ v w w',R v w→T i w w'→R v w')
  (h1:∀ vs L w,kP ops L k→C L w→(∀ (j:Nat) (R' : ah),bU .any ops ops.size k j=true→R'.live ops k=true→Rs[k - 1 - j]?=some R'→j < k→R'.at vs j w)→∀ K:Act→World→Prop,(∀ a' v w',a'=(fr vs).put o.dst v→R v w'→C (Listed.but L k) w'→T k w w'→K a' w') →
   if Region.wanted o (yielded ops (fr vs).tmps)=true then o.wp P (fr vs) w K Q else K ((fr vs).put o.dst undef) w)
  (h2:fF P ops Q C T fr (k+1) l (⟨0,fun _ v w=>R v w,Br⟩ :: Rs)):fF P ops Q C T fr k (o :: l) Rs :=
 ⟨⟨0,fun _ v w=>R v w,Br⟩,.inl (fun _ _ _ _ h=>h),fun i hi hb ha _ v w w' h t=>hR i hi hb ha v w w' h t,h1,h2⟩
theorem bc {C:(Nat→Bool)→World→Prop} {T:Nat→World→World→Prop} {fr:(Nat→Value)→Act} {k:Nat} {o:Oper} {l:List Oper} {Rs:List ah} (Br:List Nat) (D:Nat) (R:Value→Value→World→Prop) (hD:bU .any ops ops.size k D=true) (hR:∀ i,i ≠ k→i ∉ Br→bU .any ops ops.size k i=false→∀ u v w w',R u v w→T i w w'→R u v w')
  (h1:∀ vs L w,kP ops L k→C L w→(∀ (j:Nat) (R' : ah),bU .any ops ops.size k j=true→R'.live ops k=true→Rs[k - 1 - j]?=some R'→j < k→R'.at vs j w)→∀ K:Act→World→Prop,(∀ a' v w',a'=(fr vs).put o.dst v→R (vs D) v w'→C (Listed.but L k) w'→T k w w'→K a' w') →
   if Region.wanted o (yielded ops (fr vs).tmps)=true then o.wp P (fr vs) w K Q else K ((fr vs).put o.dst undef) w)
  (h2:fF P ops Q C T fr (k+1) l (⟨D,R,Br⟩ :: Rs)):fF P ops Q C T fr k (o :: l) Rs :=
 ⟨⟨D,R,Br⟩,.inr hD,hR,h1,h2⟩
end
theorem fe {ops:Array Oper} {k:Nat} {Rs:List ah} {vs:Nat→Value} {w:World} (hB:∀ (j:Nat) (R:ah),bU .any ops ops.size k j=true→R.live ops k=true→Rs[k-1-j]?=some R→j<k→R.at vs j w) (j:Nat) {V:Value} (h3:Rs[k-1-j]?=some ⟨0,fun _ v _=>v=V,[]⟩:=by rfl) (h1:bU .any ops ops.size k j=true:=by kernel_rfl) (h4:j<k:=by decide):vs j=V:=ah.eq (hB j _ h1 rfl h3 h4)
theorem fs {ops:Array Oper} {k:Nat} {Rs:List ah} {vs:Nat→Value} {w:World} (hB:∀ (j:Nat) (R:ah),bU .any ops ops.size k j=true→R.live ops k=true→Rs[k-1-j]?=some R→j<k→R.at vs j w) (j:Nat) {R:ah} (h3:Rs[k-1-j]?=some R:=by rfl) (h1:bU .any ops ops.size k j=true:=by kernel_rfl) (h2:R.live ops k=true:=by kernel_rfl) (h4:j<k:=by decide):R.at vs j w:=hB j _ h1 h2 h3 h4
theorem sy {ops:Array Oper} {s k:Nat} {C0 C1:World→Prop} {L:Nat→Bool} {w:World} (hG:kP ops L k) (h:C0 w) (ha:bU .any ops ops.size s k=true:=by kernel_rfl) (xw:s≠k:=by decide):Sw s C0 C1 (Listed.but L k) w:=Sw.stay hG ha xw h
theorem sb {ops:Array Oper} {s k:Nat} {C0 C1:World→Prop} {L:Nat→Bool} {w:World} (h:Sw s C0 C1 L w) (hG:kP ops L k) (ha:bU .any ops ops.size s k=true:=by kernel_rfl):C0 w:=Sw.before hG ha h
def Mk (_:Nat):Prop:=True
theorem fmk {ops:Array Oper} {k:Nat} {Rs:List ah} {vs:Nat→Value} {w:World} {j:Nat} (_:Mk j) (hB:∀ (j:Nat) (R:ah),bU .any ops ops.size k j=true→R.live ops k=true→Rs[k-1-j]?=some R→j<k→R.at vs j w) {V:Value} (h3:Rs[k-1-j]?=some ⟨0,fun _ v _=>v=V,[]⟩:=by rfl) (h1:bU .any ops ops.size k j=true:=by kernel_rfl) (h4:j<k:=by decide):vs j=V:=ah.eq (hB j _ h1 rfl h3 h4)
theorem fck {w:World} {g:Nat} {t:TypeId} {cs:List Value} {j:Nat} (_:Mk j) (h:ai w g t cs):w.cell? ⟨g,j,none⟩=cs[j]?:=h.cell j
theorem vp0 {P:Prop} (h:P:=by (intro vs L9 w9 xl xj hB K9 xk;simp only [Act.put,sA,gs0,gs1] at xk;go_simp;first | exact xk _ _ rfl xj bR | exact xk _ _ rfl xj jB)):P:=h
theorem vp0C3 {A:Prop} (hL:A) {P:Prop} (h:A→P:=by (intro hL vs L9 w9 xl xj hB K9 xk;obtain ⟨q0,q1,q2⟩:=cells3 (hL.below xj hL.lt);simp only [Act.put,sA,gs0,gs1] at xk;go_simp;first | exact xk _ _ rfl xj bR | exact xk _ _ rfl xj jB)):P:=h hL
theorem vp0C4 {A:Prop} (hL:A) {P:Prop} (h:A→P:=by (intro hL vs L9 w9 xl xj hB K9 xk;obtain ⟨q0,q1,q2,q3⟩:=cells4 (hL.below xj hL.lt);simp only [Act.put,sA,gs0,gs1] at xk;go_simp;first | exact xk _ _ rfl xj bR | exact xk _ _ rfl xj jB)):P:=h hL
theorem vp1 (j0:Nat) {P:Prop} (h:Mk j0→P:=by (intro m0 vs L9 w9 xl xj hB K9 xk;have d0:=fmk m0 hB;simp only [d0] at xk ⊢;simp only [Act.put,sA,gs0,gs1] at xk;go_simp;first | exact xk _ _ rfl xj bR | exact xk _ _ rfl xj jB)):P:=h trivial
theorem vp1C5 (j0:Nat) {A:Prop} (hL:A) {P:Prop} (h:Mk j0→A→P:=by (intro m0 hL vs L9 w9 xl xj hB K9 xk;have d0:=fmk m0 hB;simp only [d0] at xk ⊢;obtain ⟨q0,q1,q2,q3,q4⟩:=cells5 (hL.below xj hL.lt);simp only [Act.put,sA,gs0,gs1] at xk;go_simp;first | exact xk _ _ rfl xj bR | exact xk _ _ rfl xj jB)):P:=h trivial hL
theorem vp1c1 (j0:Nat) {A:Prop} (hL:A) (j9:Nat) {P:Prop} (h:Mk j0→A→Mk j9→P:=by (intro m0 hL m9 vs L9 w9 xl xj hB K9 xk;have d0:=fmk m0 hB;simp only [d0] at xk ⊢;have q0:=fck m9 (hL.below xj hL.lt);simp only [gz0,gz1] at q0;simp only [Act.put,sA,gs0,gs1] at xk;go_simp;first | exact xk _ _ rfl xj bR | exact xk _ _ rfl xj jB)):P:=h trivial hL trivial
theorem vp1dt (j0:Nat) {A:Prop} (hL:A) {B:Prop} (hX:B) {P:Prop} (h:Mk j0→A→B→P:=by (intro m0 hL hX vs L9 w9 xl xj hB K9 xk;have d0:=fmk m0 hB;simp only [d0] at xk ⊢;have q0:=(xj.cell hL).trans hX;simp only [Act.put,sA,gs0,gs1] at xk;go_simp;first | exact xk _ _ rfl xj bR | exact xk _ _ rfl xj jB)):P:=h trivial hL hX
theorem vp1s (j0:Nat) {A:Prop} (hL:A) {P:Prop} (h:Mk j0→A→P:=by (intro m0 hL vs L9 w9 xl xj hB K9 xk;have d0:=fmk m0 hB;simp only [d0] at xk ⊢;have q0:=hL ⟨w9,xj⟩;try dsimp only at q0;simp only [Act.put,sA,gs0,gs1] at xk;go_simp;first | exact xk _ _ rfl xj bR | exact xk _ _ rfl xj jB)):P:=h trivial hL
theorem vp2 (j0:Nat) (j1:Nat) {P:Prop} (h:Mk j0→Mk j1→P:=by (intro m0 m1 vs L9 w9 xl xj hB K9 xk;have d0:=fmk m0 hB;have d1:=fmk m1 hB;simp only [d0,d1] at xk ⊢;simp only [Act.put,sA,gs0,gs1] at xk;go_simp;first | exact xk _ _ rfl xj bR | exact xk _ _ rfl xj jB)):P:=h trivial trivial
theorem va0 {P:Prop} (h:P:=by (intro vs L9 w9 xl xj hB K9 xk;replace xj:=xj.after xl kZ;simp only [Act.put,sA,gs0,gs1] at xk;go_simp;first | exact xk _ _ rfl (Sw.on xl kZ xj) bR | exact xk _ _ rfl (Sw.on xl kZ xj) jB)):P:=h
theorem va1 (j0:Nat) {P:Prop} (h:Mk j0→P:=by (intro m0 vs L9 w9 xl xj hB K9 xk;replace xj:=xj.after xl kZ;have d0:=fmk m0 hB;simp only [d0] at xk ⊢;simp only [Act.put,sA,gs0,gs1] at xk;go_simp;first | exact xk _ _ rfl (Sw.on xl kZ xj) bR | exact xk _ _ rfl (Sw.on xl kZ xj) jB)):P:=h trivial
theorem vb0 {P:Prop} (h:P:=by (intro vs L9 w9 xl xj hB K9 xk;replace xj:=sb xj xl;simp only [Act.put,sA,gs0,gs1] at xk;go_simp;first | exact xk _ _ rfl (sy xl xj) bR | exact xk _ _ rfl (sy xl xj) jB)):P:=h
theorem vb0C5 {A:Prop} (hL:A) {P:Prop} (h:A→P:=by (intro hL vs L9 w9 xl xj hB K9 xk;replace xj:=sb xj xl;obtain ⟨q0,q1,q2,q3,q4⟩:=cells5 (hL.below xj hL.lt);simp only [Act.put,sA,gs0,gs1] at xk;go_simp;first | exact xk _ _ rfl (sy xl xj) bR | exact xk _ _ rfl (sy xl xj) jB)):P:=h hL
theorem vb0C8 {A:Prop} (hL:A) {P:Prop} (h:A→P:=by (intro hL vs L9 w9 xl xj hB K9 xk;replace xj:=sb xj xl;obtain ⟨q0,q1,q2,q3,q4,q5,q6,q7⟩:=cells8 (hL.below xj hL.lt);simp only [Act.put,sA,gs0,gs1] at xk;go_simp;first | exact xk _ _ rfl (sy xl xj) bR | exact xk _ _ rfl (sy xl xj) jB)):P:=h hL
theorem vb1 (j0:Nat) {P:Prop} (h:Mk j0→P:=by (intro m0 vs L9 w9 xl xj hB K9 xk;replace xj:=sb xj xl;have d0:=fmk m0 hB;simp only [d0] at xk ⊢;simp only [Act.put,sA,gs0,gs1] at xk;go_simp;first | exact xk _ _ rfl (sy xl xj) bR | exact xk _ _ rfl (sy xl xj) jB)):P:=h trivial
theorem vb1C5 (j0:Nat) {A:Prop} (hL:A) {P:Prop} (h:Mk j0→A→P:=by (intro m0 hL vs L9 w9 xl xj hB K9 xk;replace xj:=sb xj xl;have d0:=fmk m0 hB;simp only [d0] at xk ⊢;obtain ⟨q0,q1,q2,q3,q4⟩:=cells5 (hL.below xj hL.lt);simp only [Act.put,sA,gs0,gs1] at xk;go_simp;first | exact xk _ _ rfl (sy xl xj) bR | exact xk _ _ rfl (sy xl xj) jB)):P:=h trivial hL
theorem vb1c1 (j0:Nat) {A:Prop} (hL:A) (j9:Nat) {P:Prop} (h:Mk j0→A→Mk j9→P:=by (intro m0 hL m9 vs L9 w9 xl xj hB K9 xk;replace xj:=sb xj xl;have d0:=fmk m0 hB;simp only [d0] at xk ⊢;have q0:=fck m9 (hL.below xj hL.lt);simp only [gz0,gz1] at q0;simp only [Act.put,sA,gs0,gs1] at xk;go_simp;first | exact xk _ _ rfl (sy xl xj) bR | exact xk _ _ rfl (sy xl xj) jB)):P:=h trivial hL trivial
theorem vb1dt (j0:Nat) {A:Prop} (hL:A) {B:Prop} (hX:B) {P:Prop} (h:Mk j0→A→B→P:=by (intro m0 hL hX vs L9 w9 xl xj hB K9 xk;replace xj:=sb xj xl;have d0:=fmk m0 hB;simp only [d0] at xk ⊢;have q0:=(xj.cell hL).trans hX;simp only [Act.put,sA,gs0,gs1] at xk;go_simp;first | exact xk _ _ rfl (sy xl xj) bR | exact xk _ _ rfl (sy xl xj) jB)):P:=h trivial hL hX
theorem vb1e (j0:Nat) {A:Prop} (hL:A) {P:Prop} (h:Mk j0→A→P:=by (intro m0 hL vs L9 w9 xl xj hB K9 xk;replace xj:=sb xj xl;have d0:=fmk m0 hB;simp only [d0] at xk ⊢;have q0:=(hL.below xj hL.lt).cell 5;have q1:=(hL.below xj hL.lt).cell 6;have q2:=(hL.below xj hL.lt).cell 7;simp only [gz0,gz1] at q0 q1 q2;simp only [Act.put,sA,gs0,gs1] at xk;go_simp;first | exact xk _ _ rfl (sy xl xj) bR | exact xk _ _ rfl (sy xl xj) jB)):P:=h trivial hL
theorem vb1i (j0:Nat) {A:Prop} (hL:A) {P:Prop} (h:Mk j0→A→P:=by (intro m0 hL vs L9 w9 xl xj hB K9 xk;replace xj:=sb xj xl;have d0:=fmk m0 hB;simp only [d0] at xk ⊢;simp only [Act.put,sA,gs0,gs1] at xk;go_simp;first | exact xk _ _ rfl (sy xl xj) bR | exact xk _ _ rfl (sy xl xj) jB)):P:=h trivial hL
theorem vb1s (j0:Nat) {A:Prop} (hL:A) {P:Prop} (h:Mk j0→A→P:=by (intro m0 hL vs L9 w9 xl xj hB K9 xk;replace xj:=sb xj xl;have d0:=fmk m0 hB;simp only [d0] at xk ⊢;have q0:=hL ⟨w9,xj⟩;try dsimp only at q0;simp only [Act.put,sA,gs0,gs1] at xk;go_simp;first | exact xk _ _ rfl (sy xl xj) bR | exact xk _ _ rfl (sy xl xj) jB)):P:=h trivial hL
theorem vb1w (j0:Nat) {A:Prop} (hL:A) {P:Prop} (h:Mk j0→A→P:=by (intro m0 hL vs L9 w9 xl xj hB K9 xk;replace xj:=sb xj xl;have d0:=fmk m0 hB;simp only [d0] at xk ⊢;have q0:=hL.out w9 xj;simp only [Act.put,sA,gs0,gs1] at xk;go_simp;first | exact xk _ _ rfl (sy xl xj) bR | exact xk _ _ rfl (sy xl xj) jB)):P:=h trivial hL
theorem vb2 (j0:Nat) (j1:Nat) {P:Prop} (h:Mk j0→Mk j1→P:=by (intro m0 m1 vs L9 w9 xl xj hB K9 xk;replace xj:=sb xj xl;have d0:=fmk m0 hB;have d1:=fmk m1 hB;simp only [d0,d1] at xk ⊢;simp only [Act.put,sA,gs0,gs1] at xk;go_simp;first | exact xk _ _ rfl (sy xl xj) bR | exact xk _ _ rfl (sy xl xj) jB)):P:=h trivial trivial
theorem vb2i (j0:Nat) (j1:Nat) {A:Prop} (hL:A) {P:Prop} (h:Mk j0→Mk j1→A→P:=by (intro m0 m1 hL vs L9 w9 xl xj hB K9 xk;replace xj:=sb xj xl;have d0:=fmk m0 hB;have d1:=fmk m1 hB;simp only [d0,d1] at xk ⊢;simp only [Act.put,sA,gs0,gs1] at xk;go_simp;first | exact xk _ _ rfl (sy xl xj) bR | exact xk _ _ rfl (sy xl xj) jB)):P:=h trivial trivial hL
theorem vb3 (j0:Nat) (j1:Nat) (j2:Nat) {P:Prop} (h:Mk j0→Mk j1→Mk j2→P:=by (intro m0 m1 m2 vs L9 w9 xl xj hB K9 xk;replace xj:=sb xj xl;have d0:=fmk m0 hB;have d1:=fmk m1 hB;have d2:=fmk m2 hB;simp only [d0,d1,d2] at xk ⊢;simp only [Act.put,sA,gs0,gs1] at xk;go_simp;first | exact xk _ _ rfl (sy xl xj) bR | exact xk _ _ rfl (sy xl xj) jB)):P:=h trivial trivial trivial
theorem vd0 {P:Prop} (h:P:=by (intro vs L9 w9 xl xj hB K9 xk;simp only [Act.put,sA,gs0,gs1] at xk;go_simp;first | exact xk _ _ rfl (xj.stay xl.self dD) gR | exact xk _ _ rfl (xj.stay xl.self dD) jG)):P:=h
theorem vd0D5 {A:Prop} (hL:A) {B:Prop} (hX:B) {P:Prop} (h:A→B→P:=by (intro hL hX vs L9 w9 xl xj hB K9 xk;obtain ⟨q0,q1,q2,q3,q4⟩:=cells5 (xj.lies hL hX);simp only [Act.put,sA,gs0,gs1] at xk;go_simp;first | exact xk _ _ rfl (xj.stay xl.self dD) gR | exact xk _ _ rfl (xj.stay xl.self dD) jG)):P:=h hL hX
theorem vd1 (j0:Nat) {P:Prop} (h:Mk j0→P:=by (intro m0 vs L9 w9 xl xj hB K9 xk;have d0:=fmk m0 hB;simp only [d0] at xk ⊢;simp only [Act.put,sA,gs0,gs1] at xk;go_simp;first | exact xk _ _ rfl (xj.stay xl.self dD) gR | exact xk _ _ rfl (xj.stay xl.self dD) jG)):P:=h trivial
theorem vd1d1 (j0:Nat) {A:Prop} (hL:A) {B:Prop} (hX:B) (j9:Nat) {P:Prop} (h:Mk j0→A→B→Mk j9→P:=by (intro m0 hL hX m9 vs L9 w9 xl xj hB K9 xk;have d0:=fmk m0 hB;simp only [d0] at xk ⊢;have q0:=fck m9 (xj.lies hL hX);simp only [gz0,gz1] at q0;simp only [Act.put,sA,gs0,gs1] at xk;go_simp;first | exact xk _ _ rfl (xj.stay xl.self dD) gR | exact xk _ _ rfl (xj.stay xl.self dD) jG)):P:=h trivial hL hX trivial
theorem vo0 {P:Prop} (h:P:=by (intro vs L9 w9 xl xj hB K9 xk;simp only [Act.put,sA,gs0,gs1] at xk;have zv:=jZ xj;clear xj;go_simp;first | exact xk _ _ rfl (Sw.both dD (fun h=>h) (fun h=>h) zv.out) bR | exact xk _ _ rfl (Sw.both dD (fun h=>h) (fun h=>h) zv.out) jB)):P:=h
theorem vo2 (j0:Nat) (j1:Nat) {P:Prop} (h:Mk j0→Mk j1→P:=by (intro m0 m1 vs L9 w9 xl xj hB K9 xk;have d0:=fmk m0 hB;have d1:=fmk m1 hB;simp only [d0,d1] at xk ⊢;simp only [Act.put,sA,gs0,gs1] at xk;have zv:=jZ xj;clear xj;go_simp;first | exact xk _ _ rfl (Sw.both dD (fun h=>h) (fun h=>h) zv.out) bR | exact xk _ _ rfl (Sw.both dD (fun h=>h) (fun h=>h) zv.out) jB)):P:=h trivial trivial
theorem anI {a b c d:Prop} (h:a→c) (h1:a→b→d):a ∧ b→c ∧ d:=fun q=>⟨h q.1,h1 q.1 q.2⟩
section
variable {P:Program} {ops:Array Oper} {Q:Exit→Act→World→Prop} {C:(Nat→Bool)→World→Prop} {T:Nat→World→World→Prop} {fr:(Nat→Value)→Act} {k:Nat} {o:Oper} {l:List Oper} {Rs:List ah}
theorem sm0 (Br:List Nat) (R:Value→World→Prop) (h1:∀ vs L w,kP ops L k→C L w→(∀ (j:Nat) (R':ah),bU .any ops ops.size k j=true→R'.live ops k=true→Rs[k-1-j]?=some R'→j<k→R'.at vs j w)→∀ K:Act→World→Prop,(∀ a' v w',a'=(fr vs).put o.dst v→R v w'→C (Listed.but L k) w'→T k w w'→K a' w')→if Region.wanted o (yielded ops (fr vs).tmps)=true then o.wp P (fr vs) w K Q else K ((fr vs).put o.dst undef) w) (h2:fF P ops Q C T fr (k+1) l (⟨0,fun _ v w=>R v w,Br⟩::Rs)) (hR:∀ i,i≠k→i∉Br→bU .any ops ops.size k i=false→∀ v w w',R v w→T i w w'→R v w':=by (intro i9 yg hb9 ha9 v w1 w2 hv xJ;exact hv)):fF P ops Q C T fr k (o::l) Rs:=af Br R hR h1 h2
theorem sm (Br:List Nat) (R:Value→World→Prop) (h1:∀ vs L w,kP ops L k→C L w→(∀ (j:Nat) (R':ah),bU .any ops ops.size k j=true→R'.live ops k=true→Rs[k-1-j]?=some R'→j<k→R'.at vs j w)→∀ K:Act→World→Prop,(∀ a' v w',a'=(fr vs).put o.dst v→R v w'→C (Listed.but L k) w'→T k w w'→K a' w')→if Region.wanted o (yielded ops (fr vs).tmps)=true then o.wp P (fr vs) w K Q else K ((fr vs).put o.dst undef) w) (h2:fF P ops Q C T fr (k+1) l (⟨0,fun _ v w=>R v w,Br⟩::Rs)) (hR:∀ i,i≠k→i∉Br→bU .any ops ops.size k i=false→∀ v w w',R v w→T i w w'→R v w':=by ((first | (intro i9 yg hb9 ha9 v w1 w2 hv xJ;have hb:=xJ (fun hm=>by simp only [mC,mN,oF] at hm hb9;first | (subst hm;first | exact yg rfl | exact hb9 sP | exact absurd (ha9.symm.trans (show bU .any _ _ _ _=true by kernel_rfl)) dD) | (rcases hm with rfl | rfl <;> first | exact yg rfl | exact hb9 sP | exact absurd (ha9.symm.trans (show bU .any _ _ _ _=true by kernel_rfl)) dD) | (rcases hm with rfl | rfl | rfl <;> first | exact yg rfl | exact hb9 sP | exact absurd (ha9.symm.trans (show bU .any _ _ _ _=true by kernel_rfl)) dD));revert hv) | (intro i9 yg hb9 ha9 v w1 w2 hv hb;revert hv));repeat' (first | with_reducible exact id | exact fun q=>q.kept hb (by intro e;injection e;omega) | exact fun q=>q.below hb q.lt | exact fun q=>ac q hb | exact fun q=>cj q hb hgB | exact fun q=>q.below hb | exact fun q=>q.then hb | exact fun q=>q.grown hb hgB | exact fun q=>q.grown hb hgB oM | (with_reducible apply Exists.imp;intro _) | (with_reducible refine anI ?_ fun _=>?_)))):fF P ops Q C T fr k (o::l) Rs:=af Br R hR h1 h2
theorem pm0 (Br:List Nat) (D:Nat) (R:Value→Value→World→Prop) (h1:∀ vs L w,kP ops L k→C L w→(∀ (j:Nat) (R':ah),bU .any ops ops.size k j=true→R'.live ops k=true→Rs[k-1-j]?=some R'→j<k→R'.at vs j w)→∀ K:Act→World→Prop,(∀ a' v w',a'=(fr vs).put o.dst v→R (vs D) v w'→C (Listed.but L k) w'→T k w w'→K a' w')→if Region.wanted o (yielded ops (fr vs).tmps)=true then o.wp P (fr vs) w K Q else K ((fr vs).put o.dst undef) w) (h2:fF P ops Q C T fr (k+1) l (⟨D,R,Br⟩::Rs)) (hR:∀ i,i≠k→i∉Br→bU .any ops ops.size k i=false→∀ u v w w',R u v w→T i w w'→R u v w':=by (intro i9 yg hb9 ha9 u v w1 w2 hv xJ;exact hv)) (hD:bU .any ops ops.size k D=true:=by kernel_rfl):fF P ops Q C T fr k (o::l) Rs:=bc Br D R hD hR h1 h2
theorem pm (Br:List Nat) (D:Nat) (R:Value→Value→World→Prop) (h1:∀ vs L w,kP ops L k→C L w→(∀ (j:Nat) (R':ah),bU .any ops ops.size k j=true→R'.live ops k=true→Rs[k-1-j]?=some R'→j<k→R'.at vs j w)→∀ K:Act→World→Prop,(∀ a' v w',a'=(fr vs).put o.dst v→R (vs D) v w'→C (Listed.but L k) w'→T k w w'→K a' w')→if Region.wanted o (yielded ops (fr vs).tmps)=true then o.wp P (fr vs) w K Q else K ((fr vs).put o.dst undef) w) (h2:fF P ops Q C T fr (k+1) l (⟨D,R,Br⟩::Rs)) (hR:∀ i,i≠k→i∉Br→bU .any ops ops.size k i=false→∀ u v w w',R u v w→T i w w'→R u v w':=by ((first | (intro i9 yg hb9 ha9 u v w1 w2 hv xJ;have hb:=xJ (fun hm=>by simp only [mC,mN,oF] at hm hb9;first | (subst hm;first | exact yg rfl | exact hb9 sP | exact absurd (ha9.symm.trans (show bU .any _ _ _ _=true by kernel_rfl)) dD) | (rcases hm with rfl | rfl <;> first | exact yg rfl | exact hb9 sP | exact absurd (ha9.symm.trans (show bU .any _ _ _ _=true by kernel_rfl)) dD) | (rcases hm with rfl | rfl | rfl <;> first | exact yg rfl | exact hb9 sP | exact absurd (ha9.symm.trans (show bU .any _ _ _ _=true by kernel_rfl)) dD));revert hv) | (intro i9 yg hb9 ha9 u v w1 w2 hv hb;revert hv));repeat' (first | with_reducible exact id | exact fun q=>q.kept hb (by intro e;injection e;omega) | exact fun q=>q.below hb q.lt | exact fun q=>ac q hb | exact fun q=>cj q hb hgB | exact fun q=>q.below hb | exact fun q=>q.then hb | exact fun q=>q.grown hb hgB | exact fun q=>q.grown hb hgB oM | (with_reducible apply Exists.imp;intro _) | (with_reducible refine anI ?_ fun _=>?_)))) (hD:bU .any ops ops.size k D=true:=by kernel_rfl):fF P ops Q C T fr k (o::l) Rs:=bc Br D R hD hR h1 h2
end
def kg (L:Nat→Bool):Nat→Nat
 | 0=>0
 | n+1=>kg L n+(if L n=true then 1 else 0)
theorem pU (L:Nat→Bool):∀ n,kg L n≤n
 | 0=>Nat.le_refl _
 | n+1=>by have:=pU L n; rw [kg]; split <;> omega
theorem po {L:Nat→Bool} {k:Nat} : ∀ n,n≤k→kg (Listed.but L k) n=kg L n
 | 0,_=>rfl
 | n+1,h=>by
  rw [kg,kg,po n oM]
  have:Listed.but L k n=L n:=by unfold Listed.but; rw [if_neg oM]
  rw [this]
theorem jl {L:Nat→Bool} {k:Nat} (hL:L k=false):∀ n,k < n→kg (Listed.but L k) n=kg L n+1
 | 0,h=>absurd h oM
 | n+1,h=>by
  rw [kg,kg]
  by_cases e:n=k
  ·subst e
   rw [po n nR,hL]
   have:Listed.but L n n=true:=by unfold Listed.but; rw [if_pos rfl]
   rw [this]; simp
  ·rw [jl hL n oM]
   have:Listed.but L k n=L n:=by unfold Listed.but; rw [if_neg e]
   rw [this]; omega
theorem bJ {w w' : World} (h:Below w.heap.size w w') (row:Option Nat):w.grownBy w' row:=⟨h.os,h.tape,h.output,h.size,fun k hk _=>h.block k hk⟩
section
variable {w W:World} {g:Nat} {A:Option Addr} {bs:List UInt8} {cap m:Nat}
theorem fb.below {W' : World} (E:fb w W g A bs cap m) (h:Below W.heap.size W W'):fb w W' g A bs cap m :=
 ⟨E.cur.kept (row:=none) (bJ h _) sP,E.rd.keep fun p hp=>h.cell (by have:=E.lt; omega),aA E.gr (bJ h _)⟩
theorem fb.drew (E:fb w W g A bs cap m):fb w W.drew g A bs cap m:=⟨E.cur,E.rd.keep fun _ _=>rfl,ff E.gr⟩
structure bp where
 op:Nat
 blk:Option Nat
 P:World→Prop
 st:∀ w w' row,w.grownBy w' row→(blk=none ∨ blk ≠ row)→P w→P w'
def bp.lies (k h:Nat) (t:TypeId) (cs:List Value):bp:=⟨k,some h,fun w=>ai w h t cs,fun _ _ _ hg hb hL=>hL.kept hg (hb.resolve_left sP)⟩
def bp.row (k B:Nat) (t:TypeId) (sz:Nat) (v:Value) (n:Nat) (xs:List Value):bp:=⟨k,v.ownBlock,fun w=>w.ownsRow B t sz v n xs,fun _ _ _ hg hb hL=>hL.kept hg hb⟩
structure Dr (w W:World) (g:Nat) (A:Option Addr) (bs:List UInt8) (cap m K n:Nat) (X:List Nat) (R:List bp) (L:Nat→Bool) (W9:World):Prop where
 env:fb w W9 g A bs cap (m+K * kg L n)
 size:W.heap.size≤W9.heap.size
 keep:∀ k,k < W.heap.size→k ∉ X→W9.heap[k]?=W.heap[k]?
 room:∀ p ∈ R,p.blk ≠ some g∧(L p.op=false→p.P W9)
variable {K n k:Nat} {X:List Nat} {R:List bp} {L:Nat→Bool} {W9:World}
theorem Dr.start (E:fb w W g A bs cap m) (hr:∀ p ∈ R,p.blk ≠ some g∧p.P W):Dr w W g A bs cap m K n X R (fun _=>false) W.drew:=by
 refine ⟨?_,Nat.le_refl _,fun _ _ _=>rfl,fun p hp=>⟨(hr p hp).1,fun _=>p.st W W.drew none (ff (World.grownBy.refl W none)) (by cases p.blk <;> simp) (hr p hp).2⟩⟩
 have:kg (fun _=>false) n=0:=by
  induction n with
  | zero=>rfl
  | succ n ih=>rw [kg,ih]; simp
 rw [this]; exact E.drew
theorem Listed.was {L:Nat→Bool} {k j:Nat} (h:Listed.but L k j=false):L j=false∧j ≠ k:=by
 unfold Listed.but at h
 split at h
 ·cases h
 ·exact ⟨h,by assumption⟩
theorem Dr.stay (h:Dr w W g A bs cap m K n X R L W9) (hL:L k=false) (hk:k < n):Dr w W g A bs cap m K n X R (Listed.but L k) W9 :=
 ⟨h.env.mono (by rw [jl hL n hk,Nat.mul_add]; omega),h.size,h.keep,fun p hp=>⟨(h.room p hp).1,fun hl=>(h.room p hp).2 (Listed.was hl).1⟩⟩
theorem Dr.alloc (h:Dr w W g A bs cap m K n X R L W9) (hL:L k=false) (hk:k < n) (o:Obj):Dr w W g A bs cap m K n X R (Listed.but L k) (W9.alloc o) :=
 ⟨(h.env.alloc o).mono (by rw [jl hL n hk,Nat.mul_add]; omega),jT h.size sP,fun k hk' hX=>(Below.heap_alloc W9 o k (jL hk' h.size)).trans (h.keep k hk' hX),fun p hp=>⟨(h.room p hp).1,fun hl=>p.st _ _ none (World.grownBy_alloc W9 o none) (by cases p.blk <;> simp) ((h.room p hp).2 (Listed.was hl).1)⟩⟩
theorem Dr.call {W8:World} {m' : Nat} (h:Dr w W g A bs cap m K n X R L W9) (hL:L k=false) (hk:k < n) (E:fb w W8 g A bs cap m') (hm:m'≤m+K * kg L n+K) (gr:W9.grownBy W8 (some g)) (hX:g ∈ X):Dr w W g A bs cap m K n X R (Listed.but L k) W8 :=
 ⟨E.mono (by rw [jl hL n hk,Nat.mul_add]; omega),jT h.size gr.size,fun k hk' EY=>(gr.block k (jL hk' h.size) (by intro e; injection e with e; subst e; exact EY hX)).trans (h.keep k hk' EY),fun p hp=>⟨(h.room p hp).1,fun hl=>p.st _ _ _ gr (.inr (h.room p hp).1) ((h.room p hp).2 (Listed.was hl).1)⟩⟩
theorem Dr.below {W8:World} (h:Dr w W g A bs cap m K n X R L W9) (hL:L k=false) (hk:k < n) (hb:Below W9.heap.size W9 W8):Dr w W g A bs cap m K n X R (Listed.but L k) W8 :=
 ⟨(h.env.below hb).mono (by rw [jl hL n hk,Nat.mul_add]; omega),jT h.size hb.size,fun k hk' EY=>(hb.block k (jL hk' h.size)).trans (h.keep k hk' EY),fun p hp=>⟨(h.room p hp).1,fun hl=>p.st _ _ none (bJ hb none) (by cases p.blk <;> simp) ((h.room p hp).2 (Listed.was hl).1)⟩⟩
theorem Dr.wrote {W8:World} {row:Option Nat} (h:Dr w W g A bs cap m K n X R L W9) (hL:L k=false) (hk:k < n) (gr:W9.grownBy W8 row) (hw:∀ b,row=some b→w.heap.size≤b∧g < b∧(b ∈ X ∨ W.heap.size≤b)) (hr:∀ p ∈ R,p.blk=row→p.op=k ∨ row=none):Dr w W g A bs cap m K n X R (Listed.but L k) W8:=by
 have hE:fb w W8 g A bs cap (m+K * kg L n):=by
  cases row with
  | none=>exact ⟨h.env.cur.kept gr sP,h.env.rd.keep fun p hp=>fc gr p (by have:=h.env.lt; omega) sP,aA h.env.gr ⟨gr.os,gr.tape,gr.output,gr.size,fun j hj _=>gr.block j hj sP⟩⟩
  | some b=>exact h.env.wrote gr (hw b rfl).1 (hw b rfl).2.1
 refine ⟨hE.mono (by rw [jl hL n hk,Nat.mul_add]; omega),jT h.size gr.size,fun k hk' EY=>(gr.block k (jL hk' h.size) (by intro e; rcases (hw k e.symm).2.2 with h1 | h1; exact EY h1; omega)).trans (h.keep k hk' EY),fun p hp=>⟨(h.room p hp).1,fun hl=>?_⟩⟩
 obtain ⟨h1,h2⟩:=Listed.was hl
 refine p.st _ _ row gr ?_ ((h.room p hp).2 h1)
 by_cases e:p.blk=row
 ·rcases hr p hp e with h3 | h3
  ·exact absurd h3 h2
  ·exact .inl (e.trans h3)
 ·exact .inr e
theorem Dr.lies {b:Nat} {t:TypeId} {cs:List Value} (h:Dr w W g A bs cap m K n X R L W9) (hL:ai W b t cs) (hX:b ∉ X):ai W9 b t cs:=(h.keep b hL.lt hX).trans hL
theorem Dr.le (h:Dr w W g A bs cap m K n X R L W9):fb w W9 g A bs cap (m+K * n):=h.env.mono (by have:=Nat.mul_le_mul_left K (pU L n); omega)
theorem Dr.cnt (_h:Dr w W g A bs cap m K n X R L W9):m+K * kg L n≤m+K * n:=by have:=Nat.mul_le_mul_left K (pU L n); omega
theorem Dr.owns {B:Nat} {e:TypeId} {sz n' : Nat} {v:Value} {xs:List Value} (h:Dr w W g A bs cap m K n X R L W9) (ho:W.ownsRow B e sz v n' xs) (hX:∀ b,v.ownBlock=some b→b ∉ X):W9.ownsRow B e sz v n' xs:=by
 obtain ⟨h1,h2 | ⟨b,c,cur,hv,hB,hh,hr⟩⟩:=ho
 ·exact ⟨h1,.inl h2⟩
 ·refine ⟨h1,.inr ⟨b,c,cur,hv,hB, ?_,hr⟩⟩
  have hb:b < W.heap.size:=by
   rcases Nat.lt_or_ge b W.heap.size with h3 | h3
   ·exact h3
   ·rw [Array.getElem?_eq_none h3] at hh; cases hh
  rw [h.keep b hb (hX b (by rw [hv]; rfl))]
  exact hh
theorem Dr.reads {k' n' : Nat} {A' : Option Addr} {cs:List Value} (h:Dr w W g A bs cap m K n X R L W9) (hr:bi W W.heap.size k' A' n' cs) (hX:0 < n'→∀ b,A'.map (·.block)=some b→b ∉ X):bi W9 W9.heap.size k' A' n' cs :=
 ⟨hr.len,hr.big,fun hn=>by
  obtain ⟨b,off,e,hb,hc⟩:=hr.at_ hn
  refine ⟨b,off,e,jL hb h.size,fun j u hu=>?_⟩
  rw [World.cell?_of_block (a:=⟨b,off+j,none⟩) (h.keep b hb (hX hn b (by rw [e]; rfl)))]
  exact hc j u hu⟩
end
theorem dK {w W W2 wx:World} {g:Nat} {A:Option Addr} {bs:List UInt8} {cap m m' K n:Nat} {X:List Nat} {R:List bp} {L:Nat→Bool} (G:W.grownBy W2 (some g)) (h:Dr w W2 g A bs cap m K n X R L wx) (hX:∀ k ∈ X,k ≠ g→W.heap.size≤k) (E0:fb w W2 g A bs cap m'):W.grownBy wx (some g) :=
  ⟨h.env.gr.os.trans (E0.gr.os.symm.trans G.os), h.env.gr.tape.trans (E0.gr.tape.symm.trans G.tape), h.env.gr.output.trans (E0.gr.output.symm.trans G.output), jT G.size h.size,
   fun k hk xw => (h.keep k (jL hk G.size) (fun hm => by have := hX k hm (by intro e; subst e; exact xw rfl); omega)).trans (G.block k hk xw)⟩
theorem bf {W W' W'' : World} {g b:Nat} (G:W.grownBy W' (some g)) (hg:W'.grownBy W'' (some b)) (hb:W.heap.size≤b):W.grownBy W'' (some g) :=
 ⟨hg.os.trans G.os,hg.tape.trans G.tape,hg.output.trans G.output,jT G.size hg.size,fun k hk xw=>(hg.block k (jL hk G.size) iE).trans (G.block k hk xw)⟩
theorem tH {W:World} {k n g:Nat} {A:Option Addr} {cs:List Value} {X:List Nat} (hr:bi W W.heap.size k A n cs) (xw:∀ b,A.map (·.block)=some b→b ≠ g) (hX:∀ k ∈ X,k ≠ g→W.heap.size≤k):0 < n→∀ b,A.map (·.block)=some b→b ∉ X:=fun hn b hb hm=>by
 obtain ⟨b',off,e,hb',_⟩:=hr.at_ hn
 rw [e] at hb
 injection hb with hb
 simp only at hb
 subst hb
 have:=hX _ hm (xw _ (by rw [e]; rfl))
 omega
theorem bi.gr {W W' : World} {k n g:Nat} {A:Option Addr} {cs:List Value} (hr:bi W W.heap.size k A n cs) (xw:∀ b,A.map (·.block)=some b→b ≠ g) (hg:W.grownBy W' (some g)):bi W' W'.heap.size k A n cs :=
 ⟨hr.len,hr.big,fun hn=>by
  obtain ⟨b,off,e,hb,hc⟩:=hr.at_ hn
  refine ⟨b,off,e,jL hb hg.size,fun j u hu=>?_⟩
  rw [World.cell?_of_block (a:=⟨b,off+j,none⟩) (hg.block b hb (by intro e'; injection e' with e'; exact xw b (by rw [e]; rfl) e'))]
  exact hc j u hu⟩
theorem r5 {w W:World} {g:Nat} {A:Option Addr} {bs:List UInt8} {cap m:Nat} (E:fb w W g A bs cap m) (b n:Nat) (l:List Int) (hl:l.length=n) (hL:ai W b 3 (bj l)) (xw:b ≠ g) (h0:0 < n) (hn:n≤100000) (hm:m≤900000000) :
  Calls xi 73 #[.pointer (some ⟨g,0,none⟩),F (some ⟨b,0,none⟩) n n] W fun e w'=>∃ x:Int,e=.returned (O U x)∧fb w w' g A bs cap (m+2)∧W.grownBy w' (some g):=by
 subst hl
 have hi:iS W W.heap.size (some ⟨b,0,none⟩) l:=hL.reads (jk l) oM
 exact (mg g A _ cap _ m bs l _ h0 hn hm E.cur E.rd hi (by intro e; injection e with e; exact xw e)).mono fun _ _ ⟨x,he,_,hc,hg⟩=>⟨x,he,E.next hc hg,hg⟩
theorem dS {w W:World} {g:Nat} {A:Option Addr} {bs:List UInt8} {cap m K n k:Nat} {X:List Nat} {R:List bp} {L:Nat→Bool} {W9:World} {ops:Array Oper} (hG:kP ops L k) (h:Dr w W g A bs cap m K n X R L W9) (hk:k<n:=by decide):Dr w W g A bs cap m K n X R (Listed.but L k) W9:=h.stay hG.self hk
theorem dC {w W:World} {g:Nat} {A:Option Addr} {bs:List UInt8} {cap m K n k:Nat} {X:List Nat} {R:List bp} {L:Nat→Bool} {W9:World} {ops:Array Oper} {W8:World} {m':Nat} (hG:kP ops L k) (h:Dr w W g A bs cap m K n X R L W9) (E:fb w W8 g A bs cap m') (gr:W9.grownBy W8 (some g)) (hk:k<n:=by decide) (hm:m'≤m+K*kg L n+K:=by (have:=xj.cnt;omega)) (hX:g ∈ X:=by simp):Dr w W g A bs cap m K n X R (Listed.but L k) W8:=h.call hG.self hk E hm gr hX
def bX (n lo hi:Int):Bool:=decide (lo≤n) && decide (n≤hi)
theorem bV {n lo hi:Int} : bX n lo hi=true ↔ lo≤n∧n≤hi:=by simp [bX]
theorem aI (n lo hi:Int) (w:World):Calls xi 134 #[O U n,O U lo,O U hi] w fun e w'=>e=.returned (.bool (bX n lo hi))∧w=w':=by
 go_enter Tryz.func134,Tryz.ntmps134
 go_wp2
 all_goals (go_ret; exact ⟨by simp [bX, *]; try omega,rfl⟩)
theorem aM (n lo hi:Int) (w:World):Calls xi 75 #[O U n,O U lo,O U hi] w fun e w'=>e=.returned (.bool (bX n lo hi))∧w=w':=by
 go_enter Tryz.func75,Tryz.ntmps75
 go_wp2
 all_goals (go_ret; exact ⟨by simp [bX, *]; try omega,rfl⟩)
structure qE (lo hi:Nat) (w w' : World):Prop where
 os:w'.os=w.os
 tape:w'.tape=w.tape
 output:w'.output=w.output
 size:w.heap.size≤w'.heap.size
 block:∀ k,k < w.heap.size→(k < lo ∨ hi≤k)→w'.heap[k]?=w.heap[k]?
theorem qE.refl (lo hi:Nat) (w:World):qE lo hi w w:=⟨rfl,rfl,rfl,Nat.le_refl _,fun _ _ _=>rfl⟩
theorem qE.trans {lo hi:Nat} {a b c:World} (h:qE lo hi a b) (k:qE lo hi b c):qE lo hi a c :=
 ⟨k.os.trans h.os,k.tape.trans h.tape,k.output.trans h.output,jT h.size k.size,fun i hi ho=>(k.block i (jL hi h.size) ho).trans (h.block i hi ho)⟩
theorem qE.of {lo hi:Nat} {a b:World} {row:Option Nat} (h:a.grownBy b row) (hr:∀ g,row=some g→lo≤g∧g < hi):qE lo hi a b :=
 ⟨h.os,h.tape,h.output,h.size,fun k hk ho=>h.block k hk (fun e=>by have:=hr k e.symm; omega)⟩
theorem qE.below {lo hi:Nat} {a b:World} (h:qE lo hi a b) (Bj:lo≤a.heap.size):Below lo a b :=
 ⟨h.os,h.tape,h.output,h.size,fun k hk=>h.block k oM (.inl hk)⟩
theorem qE.lies {lo hi:Nat} {a b:World} (h:qE lo hi a b) {g:Nat} {t:TypeId} {cs:List Value} (hL:ai a g t cs) (ho:g < lo ∨ hi≤g):ai b g t cs:=(h.block g hL.lt ho).trans hL
theorem qE.own {lo hi:Nat} {a b:World} (h:qE lo hi a b) {B:Nat} {t:TypeId} {k:Nat} {A:Option Addr} {n:Nat} {cs:List Value} (hO:cq a B t k A n cs) (hB:hi≤B):cq b B t k A n cs:=by
 obtain ⟨hl,hn,h0 | ⟨g',rest,hA,hg',hh⟩⟩:=hO
 ·exact ⟨hl,hn,.inl h0⟩
 ·exact ⟨hl,hn,.inr ⟨g',rest,hA,hg',h.lies hh (.inr oM)⟩⟩
def bB {α:Type} (f:α→Bool):Nat→List α→Int
 | _,[]=>-1
 | k,x :: l=>if f x then k else bB f (k+1) l
theorem mU {α:Type} (f:α→Bool):∀ (l:List α) (k:Nat),decide (0≤bB f k l)=l.any f
 | [],_=>rfl
 | x :: l,k=>by
  rw [bB,List.any_cons,← mU f l (k+1)]
  cases f x <;> simp
theorem tI {α:Type} {f:α→Bool} {l:List α} {k:Nat} (h:k < l.length) (hf:f l[k]=true):bB f k (l.drop k)=k:=by
 rw [List.drop_eq_getElem_cons h,bB,hf]; rfl
theorem ve {α:Type} {f:α→Bool} {l:List α} {k:Nat} (h:k < l.length) (hf:f l[k]=false):bB f k (l.drop k)=bB f (k+1) (l.drop (k+1)):=by
 rw [List.drop_eq_getElem_cons h,bB,hf]; rfl
structure ar where
 k:Int
 c:Int
 deriving DecidableEq,Inhabited
def ar.enc (r:ar):List Value:=[O U r.k,O U r.c]
abbrev ar.val (r:ar):Value:=.agg #[O U r.k,O U r.c]
theorem ar.enc_len (r:ar):r.enc.length=2:=rfl
structure mV (B:Nat) (w:World) (b o:Nat) (r:ar):Prop where
 c0:∀ p:aq B w,p.val.cell? ⟨b,o,none⟩=some (O U r.k)
 c1:∀ p:aq B w,p.val.cell? ⟨b,o+1,none⟩=some (O U r.c)
theorem mV.up {B B' : Nat} {w W:World} {b o:Nat} {r:ar} (h:mV B w b o r) (hb:Below B w W) (hB:B≤B'):mV B' W b o r :=
 ⟨fun p=>h.c0 ⟨p.val,hb.trans (p.below.mono hB)⟩,fun p=>h.c1 ⟨p.val,hb.trans (p.below.mono hB)⟩⟩
theorem mV.of {W:World} {g:Nat} {t:TypeId} {r:ar} (h:ai W g t r.enc):mV W.heap.size W g 0 r :=
 ⟨fun p=>(p.cell h.lt).trans (h.cell 0),fun p=>(p.cell h.lt).trans (h.cell 1)⟩
abbrev fE (w:World) (B:Nat) (A:Option Addr) (l:List ar):Prop:=bi w B 2 A l.length (l.flatMap ar.enc)
theorem fE.el {w:World} {B:Nat} {A:Option Addr} {l:List ar} (h:fE w B A l) (xw:0 < l.length):∃ b off,A=some ⟨b,off,none⟩∧b < B∧∀ i (hi:i < l.length),mV B w b (off+i * 2) l[i]:=by
 obtain ⟨b,off,e,hb,hc⟩:=h.at_ xw
 refine ⟨b,off,e,hb,fun i hi=>?_⟩
 have key:∀ j,j < 2→∀ u,(l[i].enc)[j]?=some u→∀ p:aq B w,p.val.cell? ⟨b,off+i * 2+j,none⟩=some u:=fun j hj u hu p=>by
  rw [p.cell hb,Nat.add_assoc]
  exact hc _ u (by rw [fm ar.enc 2 ar.enc_len l i hi j hj]; exact hu)
 exact ⟨key 0 oM _ rfl,key 1 oM _ rfl⟩
theorem r6 {W:World} {g:Nat} {t:TypeId} {l:List ar} (h:ai W g t (l.flatMap ar.enc)) (hn:l.length≤9223372036854775807):fE W W.heap.size (some ⟨g,0,none⟩) l :=
 ai.reads h (fZ ar.enc 2 ar.enc_len l) hn
theorem dO:(xi.info? 104).map (fun i=>(i.zero,i.size,i.bytes))=some (some (.agg #[O U 0,O U 0]),2,16):=kZ
structure ae where
 k:Int
 p:Int
 c:Int
 deriving DecidableEq,Inhabited
def ae.enc (r:ae):List Value:=[O U r.k,O U r.p,O U r.c]
abbrev ae.val (r:ae):Value:=.agg #[O U r.k,O U r.p,O U r.c]
theorem ae.enc_len (r:ae):r.enc.length=3:=rfl
structure f9 (B:Nat) (w:World) (b o:Nat) (r:ae):Prop where
 c0:∀ p:aq B w,p.val.cell? ⟨b,o,none⟩=some (O U r.k)
 c1:∀ p:aq B w,p.val.cell? ⟨b,o+1,none⟩=some (O U r.p)
 c2:∀ p:aq B w,p.val.cell? ⟨b,o+2,none⟩=some (O U r.c)
theorem f9.up {B B' : Nat} {w W:World} {b o:Nat} {r:ae} (h:f9 B w b o r) (hb:Below B w W) (hB:B≤B'):f9 B' W b o r :=
 ⟨fun p=>h.c0 ⟨p.val,hb.trans (p.below.mono hB)⟩,fun p=>h.c1 ⟨p.val,hb.trans (p.below.mono hB)⟩,fun p=>h.c2 ⟨p.val,hb.trans (p.below.mono hB)⟩⟩
theorem f9.of {W:World} {g:Nat} {t:TypeId} {r:ae} (h:ai W g t r.enc):f9 W.heap.size W g 0 r :=
 ⟨fun p=>(p.cell h.lt).trans (h.cell 0),fun p=>(p.cell h.lt).trans (h.cell 1),fun p=>(p.cell h.lt).trans (h.cell 2)⟩
abbrev ee (w:World) (B:Nat) (A:Option Addr) (l:List ae):Prop:=bi w B 3 A l.length (l.flatMap ae.enc)
theorem ee.el {w:World} {B:Nat} {A:Option Addr} {l:List ae} (h:ee w B A l) (xw:0 < l.length):∃ b off,A=some ⟨b,off,none⟩∧b < B∧∀ i (hi:i < l.length),f9 B w b (off+i * 3) l[i]:=by
 obtain ⟨b,off,e,hb,hc⟩:=h.at_ xw
 refine ⟨b,off,e,hb,fun i hi=>?_⟩
 have key:∀ j,j < 3→∀ u,(l[i].enc)[j]?=some u→∀ p:aq B w,p.val.cell? ⟨b,off+i * 3+j,none⟩=some u:=fun j hj u hu p=>by
  rw [p.cell hb,Nat.add_assoc]
  exact hc _ u (by rw [fm ae.enc 3 ae.enc_len l i hi j hj]; exact hu)
 exact ⟨key 0 oM _ rfl,key 1 oM _ rfl,key 2 oM _ rfl⟩
theorem pV {W:World} {g:Nat} {t:TypeId} {l:List ae} (h:ai W g t (l.flatMap ae.enc)) (hn:l.length≤9223372036854775807):ee W W.heap.size (some ⟨g,0,none⟩) l :=
 ai.reads h (fZ ae.enc 3 ae.enc_len l) hn
theorem ew:(xi.info? 147).map (fun i=>(i.zero,i.size,i.bytes))=some (some (.agg #[O U 0,O U 0,O U 0]),3,24):=kZ
structure aN where
 TA:Option Addr
 t:List ar
 tc:Nat
 OA:Option Addr
 o:List ae
 oc:Nat
 gt:Int
 sd:Int
 ms:Int
def aN.enc (x:aN):List Value:=[F x.TA x.t.length x.tc,F x.OA x.o.length x.oc,O U x.gt,O U x.sd,O U x.ms]
abbrev aN.val (x:aN):Value:=.agg #[F x.TA x.t.length x.tc,F x.OA x.o.length x.oc,O U x.gt,O U x.sd,O U x.ms]
theorem aN.enc_len (x:aN):x.enc.length=5:=rfl
structure aQ (w:World) (B:Nat) (x:aN):Prop where
 ts:fE w B x.TA x.t
 os:ee w B x.OA x.o
section
variable {w w' : World} {B:Nat} {x:aN}
theorem aQ.below (h:aQ w B x) (hb:Below B w w'):aQ w' B x:=⟨bi.below h.ts hb,bi.below h.os hb⟩
theorem aQ.mono {B' : Nat} (h:aQ w B x) (hB:B≤B'):aQ w B' x:=⟨bi.mono h.ts hB,bi.mono h.os hB⟩
theorem aQ.up (h:aQ w B x) (hb:Below B w w') (hB:B≤w.heap.size):aQ w' w'.heap.size x:=⟨bi.up h.ts hb hB,bi.up h.os hb hB⟩
theorem aQ.then (h:aQ w w.heap.size x) (hb:Below w.heap.size w w'):aQ w' w'.heap.size x:=h.up hb nR
end
def ar.ok (r:ar):Bool:=bX r.k 1 99 && bX r.c 0 9999
theorem ar.bounds {r:ar} (h:r.ok=true):(1≤r.k∧r.k≤99)∧0≤r.c∧r.c≤9999:=by
 unfold ar.ok at h; rw [Bool.and_eq_true,bV,bV] at h; exact h
def du:Nat→Int→List ar→Bool
 | _,_,[]=>true
 | n,p,r :: l=>r.ok && (decide (n=0) || decide (p < r.k)) && du (n+1) r.k l
def fp (l:List ar):Bool:=du 0 0 l
theorem gL:∀ (l:List ar) (n:Nat) (p:Int),du n p l=true→∀ i (h:i < l.length),l[i].ok=true
 | r :: l,n,p,hg,i,hi=>by
  simp only [du,Bool.and_eq_true] at hg
  cases i with
  | zero=>exact hg.1.1
  | succ i=>exact gL l (n+1) r.k hg.2 i (by simpa using hi)
def aS (ts:List ar) (k:Int):Bool:=ts.any fun t=>decide (t.k=k)
def ay (ts:List ar) (k:Int):Int:=bB (fun t:ar=>decide (t.k=k)) 0 ts
theorem dP (ts:List ar) (k:Int):decide (0≤ay ts k)=aS ts k:=mU _ ts 0
def ae.ok (ts:List ar) (r:ae):Bool:=aS ts r.k && bX r.p 1 999 && bX r.c 1 9999
theorem ae.bounds {ts:List ar} {r:ae} (h:r.ok ts=true):aS ts r.k=true∧(1≤r.p∧r.p≤999)∧1≤r.c∧r.c≤9999:=by
 unfold ae.ok at h; rw [Bool.and_eq_true,Bool.and_eq_true,bV,bV] at h; exact ⟨h.1.1,h.1.2,h.2⟩
def before (a b:ae):Bool:=decide (a.k < b.k) || decide (a.k=b.k) && decide (a.p < b.p)
def dQ (ts:List ar):Option ae→List ae→Bool
 | _,[]=>true
 | p,r :: l=>r.ok ts && (match p with | none=>true | some q=>before q r) && dQ ts (some r) l
def fh (ts:List ar) (l:List ae):Bool:=dQ ts none l
theorem gf (ts:List ar):∀ (l:List ae) (p:Option ae),dQ ts p l=true→∀ i (h:i < l.length),l[i].ok ts=true
 | r :: l,p,hg,i,hi=>by
  simp only [dQ,Bool.and_eq_true] at hg
  cases i with
  | zero=>exact hg.1.1
  | succ i=>exact gf ts l (some r) hg.2 i (by simpa using hi)
theorem eC {ts:List ar} {k:Int} (yf:∀ i (h:i < ts.length),ts[i].ok=true) (h:aS ts k=true):1≤k∧k≤99:=by
 unfold aS at h
 rw [List.any_eq_true] at h
 obtain ⟨t,ht,hk⟩:=h
 obtain ⟨i,hi,rfl⟩:=List.getElem_of_mem ht
 have:=(ar.bounds (yf i hi)).1
 have e:=of_decide_eq_true hk
 omega
theorem nS {a b:ae} (ha:1≤a.p∧a.p≤999) (hb:1≤b.p∧b.p≤999):before a b=decide (1000 * a.k+a.p < 1000 * b.k+b.p):=by
 unfold before
 by_cases h1:a.k < b.k
 ·rw [jD h1,Bool.true_or]; exact (jD oM).symm
 ·rw [jE h1,Bool.false_or]
  by_cases h2:a.k=b.k
  ·rw [jD h2,Bool.true_and]
   by_cases h3:a.p < b.p
   ·rw [jD h3]; exact (jD oM).symm
   ·rw [jE h3]; exact (jE oM).symm
  ·rw [jE h2,Bool.false_and]; exact (jE oM).symm
def gC:Int→List ar→Int
 | s,[]=>s
 | s,r :: l=>gC (s+r.c) l
def bI (f:ae→Bool):Int→List ae→Int
 | s,[]=>s
 | s,r :: l=>bI f (if f r then s+r.c else s) l
def cF (l:List ar):Int:=gC 0 l
def aW (f:ae→Bool) (l:List ae):Int:=bI f 0 l
abbrev dq:ae→Bool:=fun _=>true
theorem tJ {l:List ar} {k:Nat} (h:k < l.length) (s:Int):gC s (l.drop k)=gC (s+l[k].c) (l.drop (k+1)):=by
 rw [List.drop_eq_getElem_cons h]; rfl
theorem lC {f:ae→Bool} {l:List ae} {k:Nat} (h:k < l.length) (s:Int):bI f s (l.drop k)=bI f (if f l[k] then s+l[k].c else s) (l.drop (k+1)):=by
 rw [List.drop_eq_getElem_cons h]; rfl
theorem kB:∀ (l:List ar) (s:Int),(∀ i (h:i < l.length),l[i].ok=true)→s≤gC s l∧gC s l≤s+9999 * l.length
 | [],s,_=>by simp [gC]
 | r :: l,s,h=>by
  have hr:=(ar.bounds (h 0 sP)).2
  simp only [List.getElem_cons_zero] at hr
  have:=kB l (s+r.c) (fun i hi=>by have:=h (i+1) (by simpa using hi); simpa using this)
  simp only [gC,List.length_cons]
  omega
theorem fN (f:ae→Bool) (ts:List ar):∀ (l:List ae) (s:Int),(∀ i (h:i < l.length),l[i].ok ts=true)→s≤bI f s l∧bI f s l≤s+9999 * l.length
 | [],s,_=>by simp [bI]
 | r :: l,s,h=>by
  have hr:=(ae.bounds (h 0 sP)).2.2
  simp only [List.getElem_cons_zero] at hr
  have:=fN f ts l (if f r then s+r.c else s) (fun i hi=>by have:=h (i+1) (by simpa using hi); simpa using this)
  simp only [bI,List.length_cons]
  cases hf:f r <;> simp only [hf,if_true,if_false,Bool.false_eq_true] at this ⊢ <;> omega
def fq (x:aN):Bool:=decide (x.t.length≤8) && decide (x.o.length≤8)
def je (x:aN):Bool:=bX x.gt 0 99999 && bX x.sd 0 99999 && bX x.ms 0 99999
def lD (x:aN):Bool:=decide (x.gt=cF x.t+aW dq x.o+x.sd+x.ms)
def ap (x:aN):Bool:=fq x && je x && fp x.t && fh x.t x.o && lD x
structure bK (x:aN):Prop where
 tl:x.t.length≤8
 ol:x.o.length≤8
 g:0≤x.gt∧x.gt≤99999
 s:0≤x.sd∧x.sd≤99999
 m:0≤x.ms∧x.ms≤99999
 ts:fp x.t=true
 os:fh x.t x.o=true
 sum:x.gt=cF x.t+aW dq x.o+x.sd+x.ms
theorem bu {x:aN} : ap x=true ↔ bK x:=by
 unfold ap fq je lD
 simp only [Bool.and_eq_true,bV,decide_eq_true_eq]
 constructor
 ·rintro ⟨⟨⟨⟨⟨h1,h2⟩,⟨h3,h4⟩,h5⟩,h6⟩,h7⟩,h8⟩
  exact ⟨h1,h2,h3,h4,h5,h6,h7,h8⟩
 ·rintro ⟨h1,h2,h3,h4,h5,h6,h7,h8⟩
  exact ⟨⟨⟨⟨⟨h1,h2⟩,⟨h3,h4⟩,h5⟩,h6⟩,h7⟩,h8⟩
theorem bK.tall {x:aN} (h:bK x):∀ i (hi:i < x.t.length),x.t[i].ok=true:=gL _ _ _ h.ts
theorem bK.oall {x:aN} (h:bK x):∀ i (hi:i < x.o.length),x.o[i].ok x.t=true:=gf _ _ _ h.os
structure nW (B:Nat) (w:World) (b:Nat) (x:aN):Prop where
 c0:∀ p:aq B w,p.val.cell? ⟨b,0,none⟩=some (F x.TA x.t.length x.tc)
 c1:∀ p:aq B w,p.val.cell? ⟨b,1,none⟩=some (F x.OA x.o.length x.oc)
 c2:∀ p:aq B w,p.val.cell? ⟨b,2,none⟩=some (O U x.gt)
 c3:∀ p:aq B w,p.val.cell? ⟨b,3,none⟩=some (O U x.sd)
 c4:∀ p:aq B w,p.val.cell? ⟨b,4,none⟩=some (O U x.ms)
theorem nW.of {W:World} {g:Nat} {t:TypeId} {x:aN} (h:ai W g t x.enc):nW W.heap.size W g x :=
 ⟨fun p=>(p.cell h.lt).trans (h.cell 0),fun p=>(p.cell h.lt).trans (h.cell 1),fun p=>(p.cell h.lt).trans (h.cell 2),fun p=>(p.cell h.lt).trans (h.cell 3),fun p=>(p.cell h.lt).trans (h.cell 4)⟩
theorem aQ.at {W:World} {x:aN} (h:aQ W W.heap.size x) (q:aq W.heap.size W):aQ q.val q.val.heap.size x:=h.then q.below
theorem ai.new1 (w:World) (o:Obj) (t:TypeId) (cs:Array Value):ai ((w.alloc o).alloc (.cells cs t)) (w.heap.size+1) t cs.toList:=by
 have h:=ai.new (w.alloc o) t cs
 rwa [show (w.alloc o).heap.size=w.heap.size+1 from Array.size_push _] at h
theorem ai.new2 (w:World) (o o' : Obj) (t:TypeId) (cs:Array Value):ai (((w.alloc o).alloc o').alloc (.cells cs t)) (w.heap.size+1+1) t cs.toList:=by
 have h:=ai.new1 (w.alloc o) o' t cs
 rwa [show (w.alloc o).heap.size=w.heap.size+1 from Array.size_push _] at h
theorem nX {n:Nat} {p:Int} {l:List ar} {k:Nat} (h:k < l.length):du n p (l.drop k)=(l[k].ok && (decide (n=0) || decide (p < l[k].k)) && du (n+1) l[k].k (l.drop (k+1))):=by
 rw [List.drop_eq_getElem_cons h]; rfl
theorem pX (x:aN) (w:World) (h:aQ w w.heap.size x) :
  Calls xi 130 #[x.val] w fun e w'=>e=.returned (.bool (fp x.t && decide (x.t.length≤8)))∧Below w.heap.size w w':=by
 have hl:=h.ts.big
 go_enter Tryz.func130,Tryz.ntmps130
 go_wp2
 have hb0:=bZ w (.cells #[F x.TA x.t.length x.tc,F x.OA x.o.length x.oc,O U x.gt,O U x.sd,O U x.ms] 40)
 have hS:=nW.of (x:=x) (ai.new w 40 #[F x.TA x.t.length x.tc,F x.OA x.o.length x.oc,O U x.gt,O U x.sd,O U x.ms])
 have hR:=h.up hb0 nR
 generalize w.alloc (.cells #[F x.TA x.t.length x.tc,F x.OA x.o.length x.oc,O U x.gt,O U x.sd,O U x.ms] 40)=W at hb0 hS hR ⊢
 have c0:=hS.c0
 have yQ:=hR.ts.el
 go_loopw [3] (fun i wr=>∃ (k:Nat) (prev:Int),k≤x.t.length∧i=O U k∧(∃ q:aq W.heap.size W,wr=q.val)∧Hid (du k prev (x.t.drop k)=fp x.t)∧Hid (∀ (_hk:0 < k) (h' : k - 1 < x.t.length),prev=x.t[k - 1].k)) (fun i _=>x.t.length - (intOf i).toNat)
 case atStart=>exact ⟨0,0,Nat.zero_le _,rfl,⟨aq.start _ _,rfl⟩,rfl,fun h=>absurd h oM⟩
 case round =>
  obtain ⟨k,prev,hk,rfl,⟨q,rfl⟩,HR,HP⟩:=hrel
  by_cases xu:k < x.t.length
  ·obtain ⟨b,off,hA,hb,hcell⟩:=yQ oM
   obtain ⟨e0,e1⟩:=hcell k xu
   have HC:Hid (0 < k→∀ p:aq W.heap.size W,p.val.cell? ⟨b,off+(k - 1) * 2,none⟩=some (O U prev)):=fun h p=>by
    rw [HP.out h oM]; exact (hcell (k - 1) oM).c0 p
   have HS:=jZ (nX (n:=k) (p:=prev) xu)
   obtain ⟨r,xW⟩ : ∃ r,r=x.t[k]:=⟨_,rfl⟩
   have HN:Hid (∀ (_hk:0 < k+1) (h' : k+1 - 1 < x.t.length),r.k=x.t[k+1 - 1].k):=fun _ h'=>by rw [xW]; rfl
   rw [← xW] at e0 e1 HS
   simp only [hA] at c0
   clear xW hcell yQ hA
   go_wp2
   have hbV:=q.below.alloc q.size (.cells #[O U r.k,O U r.c] 104)
   have hlV:=ai.new q.val 104 #[O U r.k,O U r.c]
   generalize q.val.alloc (.cells #[O U r.k,O U r.c] 104)=V at hbV hlV ⊢
   generalize q.val.heap.size=gv at hlV ⊢
   obtain ⟨d0,d1⟩:=mV.of (r:=r) hlV
   have c0' : ∀ p:aq V.heap.size V,p.val.cell? ⟨w.heap.size,0,none⟩=some (F (some ⟨b,off,none⟩) x.t.length x.tc):=fun p=>c0 ⟨p.val,hbV.trans (p.below.mono hbV.size)⟩
   have xF:Hid (r.ok=(bX r.k 1 99 && bX r.c 0 9999)):=rfl
   clear e0 e1 c0
   obtain ⟨v1,BG⟩ : ∃ v,bX r.k 1 99=v:=⟨_,rfl⟩
   obtain ⟨v2,xV⟩ : ∃ v,bX r.c 0 9999=v:=⟨_,rfl⟩
   rw [BG,xV] at xF
   have zB:=jZ BG; clear BG
   have yS:=jZ xV; clear xV
   rcases Nat.eq_zero_or_pos k with h0 | h0
   ·have hd:decide (0 < k)=false:=jE oM
    have H0:=jZ h0; clear h0
    cases v1
    ·refine aw kZ kZ ?_
     repeat (any_goals (first | go_big_quiet_step ((go_at_call 134; with_reducible refine aB zB (aI r.k 1 99 _))) | (refine wpQuiet_step (fun K hK=>?_); go_simp; split <;> (refine hK _ ?_; clear hK K))))
     all_goals (refine wpQuiet_nil ?_; rintro _ ⟨q1,rfl⟩)
     all_goals have xp:=hb0.trans ((hbV.trans (q1.below.mono hbV.size)).mono hb0.size)
     all_goals go_wp2
     go_ret
     refine ⟨?_,xp⟩
     rw [← HR.out,HS.out,xF.out]; rfl
    ·cases v2
     all_goals
      refine aw kZ kZ ?_
      repeat (any_goals (first | go_big_quiet_step ((first | (go_at_call 134; with_reducible refine aB zB (aI r.k 1 99 _)) | (go_at_call 134; with_reducible refine aB yS (aI r.c 0 9999 _)))) | (refine wpQuiet_step (fun K hK=>?_); go_simp; split <;> (refine hK _ ?_; clear hK K))))
      all_goals (refine wpQuiet_nil ?_; rintro _ ⟨q1,rfl⟩)
      all_goals have xp:=hb0.trans ((hbV.trans (q1.below.mono hbV.size)).mono hb0.size)
      all_goals go_wp2
     ·go_ret
      refine ⟨?_,xp⟩
      rw [← HR.out,HS.out,xF.out]; rfl
     ·go_roundw
      case rel=>exact ⟨k+1,r.k,oM,by go_num,⟨⟨_,hbV.trans (q1.below.mono hbV.size)⟩,rfl⟩,by have h1:=HR.out; rw [HS.out,xF.out,jD H0.out] at h1; exact h1,HN⟩
      case measure=>simp [intOf]; omega
   ·have c5:∀ p:aq V.heap.size V,p.val.cell? ⟨b,off+(k - 1) * 2,none⟩=some (O U prev):=fun p=>HC.out h0 ⟨p.val,hbV.trans (p.below.mono hbV.size)⟩
    have h0' : (0:Int) < (k:Int):=oM
    cases v1
    ·refine aw kZ kZ ?_
     repeat (any_goals (first | go_big_quiet_step ((go_at_call 134; with_reducible refine aB zB (aI r.k 1 99 _))) | (refine wpQuiet_step (fun K hK=>?_); go_simp; split <;> (refine hK _ ?_; clear hK K))))
     all_goals (refine wpQuiet_nil ?_; rintro _ ⟨q1,rfl⟩)
     all_goals have xp:=hb0.trans ((hbV.trans (q1.below.mono hbV.size)).mono hb0.size)
     all_goals go_wp2
     go_ret
     refine ⟨?_,xp⟩
     rw [← HR.out,HS.out,xF.out]; rfl
    ·cases v2
     all_goals
      refine aw kZ kZ ?_
      repeat (any_goals (first | go_big_quiet_step ((first | (go_at_call 134; with_reducible refine aB zB (aI r.k 1 99 _)) | (go_at_call 134; with_reducible refine aB yS (aI r.c 0 9999 _)))) | (refine wpQuiet_step (fun K hK=>?_); go_simp; split <;> (refine hK _ ?_; clear hK K))))
      all_goals (refine wpQuiet_nil ?_; rintro _ ⟨q1,rfl⟩)
      all_goals have xp:=hb0.trans ((hbV.trans (q1.below.mono hbV.size)).mono hb0.size)
      all_goals go_wp2
     ·go_ret
      refine ⟨?_,xp⟩
      rw [← HR.out,HS.out,xF.out]; rfl
     ·go_ret
      refine ⟨?_,xp⟩
      have hm:r.k≤prev:=by assumption
      rw [← HR.out,HS.out,xF.out,jE (by omega : ¬ k=0),jE (by omega : ¬ prev < r.k)]; rfl
     ·have hm:prev < r.k:=by assumption
      go_roundw
      case rel=>exact ⟨k+1,r.k,oM,by go_num,⟨⟨_,hbV.trans (q1.below.mono hbV.size)⟩,rfl⟩,by have h1:=HR.out; rw [HS.out,xF.out,jD hm,Bool.or_true] at h1; exact h1,HN⟩
      case measure=>simp [intOf]; omega
  ·have HK:Hid (fp x.t=true):=by
    have h1:=HR.out
    rw [List.drop_eq_nil_of_le oM] at h1; exact h1.symm
   clear yQ
   go_wp2
   go_ret
   refine ⟨?_,hb0.trans (q.below.mono hb0.size)⟩
   rw [HK.out,Bool.true_and]
   exact congrArg (fun b=>Ending.returned (.bool b)) (decide_eq_decide.2 oM)
theorem ai.newB (w:World) (o:Obj) (t:TypeId) (cs:Array Value):ai ((w.alloc o).alloc (.cells cs t)) (w.heap.size+1) t cs.toList:=by
 have h:=ai.new (w.alloc o) t cs
 rwa [show (w.alloc o).heap.size=w.heap.size+1 from Array.size_push _] at h
theorem gw {w w' : World} {g:Nat} (hg:w.grownBy w' (some g)) (h:w.heap.size≤g):Below w.heap.size w w' :=
 ⟨hg.os,hg.tape,hg.output,hg.size,fun k hk=>hg.block k hk iE⟩
end Go.Proofs.YtoeoimhemojdeaaGreatDoor
