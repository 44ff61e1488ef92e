/- Lemmas. -/
import Derived.WalkKit
import Derived.WalkLawsBesides
import Derived.WalkSpells
import Derived.BigQuiet
import Derived.Deep.QuietTactic
import Derived.Deep.Draws
import Derived.Deep.MidRow
import Derived.Laws.CopyRow
import Derived.Outline
import Derived.Lib.Hide
import Derived.Handy
import Derived.Test.YtoeoimhemojdeaaGreatDoorProg
import Derived.Laws.BitsAllLaws
import Derived.Orders

set_option linter.unusedVariables false
set_option linter.unusedSimpArgs false
set_option maxHeartbeats 8000000
open Go.Value renaming int → O, slice → F, string → wG
open Go.IntKind renaming i64 → U
open Go.Proofs.Tryz renaming prog → wH

namespace Go.Proofs.YtoeoimhemojdeaaGreatDoor
open Go.RowKit
theorem oM {p:Prop} (h:p:=by omega):p:=h
theorem dD {p:Prop} (h:p:=by decide):p:=h
theorem sP {p:Prop} (h:p:=by simp):p:=h
theorem kZ {p:Prop} (h:p:=by kernel_rfl):p:=h
theorem iE {p:Prop} (h:p:=by (intro e;injection e;omega)):p:=h
theorem jZ {p:Prop} (h:p):Go.RowKit.Hid p:=Lib.hid h
theorem jB {B:Nat} {w:World}:Below B w w:=Below.refl B w
theorem jG {w:World} {r:Option Nat}:w.grownBy w r:=World.grownBy.refl w r
theorem jL {a b c:Nat} (h:a<b) (h':b≤c):a<c:=Nat.lt_of_lt_of_le h h'
theorem jT {a b c:Nat} (h:a≤b) (h':b≤c):a≤c:=Nat.le_trans h h'
theorem jD {p:Prop} [Decidable p] (h:p):decide p=true:=decide_eq_true h
theorem jE {p:Prop} [Decidable p] (h:¬p):decide p=false:=decide_eq_false h
theorem nR {n:Nat}:n≤n:=Nat.le_refl n
structure ap (B:Nat) (w:World) where
 val:World
 below:Below B w val
theorem ap.cell {B:Nat} {w:World} (p:ap B w) {a:Addr} (h:a.block < B):p.val.cell? a=w.cell? a:=p.below.cell h
theorem ap.size {B:Nat} {w:World} (p:ap B w):w.heap.size≤p.val.heap.size:=p.below.size
def ap.start (B:Nat) (w:World):ap B w:=⟨w,Below.refl B w⟩
instance ap.any (B:Nat) (w:World):Inhabited (ap B w):=⟨ap.start B w⟩
def ap.go {B:Nat} {w:World} (p:ap B w) {w' : World} (hB:B≤w.heap.size) (h:Below p.val.heap.size p.val w'):ap B w :=
 ⟨w',p.below.trans (h.mono (jT hB p.size))⟩
def ap.go' {B:Nat} {w:World} (p:ap B w) {w' : World} (h:Below B p.val w'):ap B w:=⟨w',p.below.trans h⟩
theorem aX {P:Program} {id:Nat} {Q:Exit→Act→World→Prop} {a:Act} {B:Nat} {w:World} {l:List Oper} (p:ap B w) (hm:P.follows .mixedOrders=true) (hB:Region.lexB .any l.toArray=true)
  (h:wpQuiet P l.toArray (fun w'=>∃ q:ap B w,w'=q.val) (fun a'=>∀ w',(∃ q:ap B w,w'=q.val)→Q .normal a' w') l a):(Code.region id l.toArray true).wp P Q a p.val :=
 wp_region_quiet (C:=fun w'=>∃ q:ap B w,w'=q.val) hm hB ⟨⟨_,p.below.drew⟩,rfl⟩ (by simpa using h)
theorem au {P:Program} {id:Nat} {Q:Exit→Act→World→Prop} {a:Act} {w:World} {l:List Oper} (hm:P.follows .mixedOrders=true) (hB:Region.lexB .any l.toArray=true)
  (h:wpQuiet P l.toArray (fun w'=>∃ q:ap w.heap.size w,w'=q.val) (fun a'=>∀ w',(∃ q:ap w.heap.size w,w'=q.val)→Q .normal a' w') l a):(Code.region id l.toArray true).wp P Q a w :=
 aX (ap.start w.heap.size w) hm hB h
theorem aC {P:Program} {f:FuncId} {args:Array Value} {B:Nat} {w:World} {q:ap B w} {v:Value} (hB:B≤w.heap.size)
  (h:Calls P f args q.val fun e w'=>e=.returned v∧Below q.val.heap.size q.val w'):Calls P f args q.val fun e w'=>e=.returned v∧∃ q' : ap B w,w'=q'.val :=
 h.mono fun _ _ ⟨he,hb⟩=>⟨he,q.go hB hb,rfl⟩
theorem rM {P:Program} {f:FuncId} {args:Array Value} {B:Nat} {w:World} {q:ap B w} {v:Value}
  (h:Calls P f args q.val fun e w'=>e=.returned v∧q.val=w'):Calls P f args q.val fun e w'=>e=.returned v∧∃ q' : ap B w,w'=q'.val :=
 h.mono fun _ _ ⟨he,hb⟩=>⟨he,q,hb.symm⟩
theorem aB {P:Program} {f:FuncId} {args:Array Value} {B:Nat} {w:World} {q:ap B w} {b b' : Bool} (hb:Hid (b=b'))
  (h:Calls P f args q.val fun e w'=>e=.returned (.bool b)∧q.val=w'):Calls P f args q.val fun e w'=>e=.returned (.bool b')∧∃ q' : ap B w,w'=q'.val:=by
 have:=hb.out; subst this; exact rM h
theorem av {a b c:World} (h:Below a.heap.size a b) (k:Below b.heap.size b c):Below a.heap.size a c:=h.trans (k.mono h.size)
theorem aY {P:Program} {f:FuncId} {args:Array Value} {W:World} {v:Value}
  (h:Calls P f args W fun e w'=>e=.returned v∧Below W.heap.size W w'):Calls P f args W fun e w'=>e=.returned v∧∃ q' : ap W.heap.size W,w'=q'.val :=
 h.mono fun _ _ ⟨he,hb⟩=>⟨he,⟨_,hb⟩,rfl⟩
structure bm (w:World) (B k:Nat) (A:Option Addr) (n:Nat) (cs:List Value):Prop where
 len:cs.length=n * k
 big:n≤9223372036854775807
 at_:0 < n→∃ b off,A=some ⟨b,off,none⟩∧b < B∧∀ j u,cs[j]?=some u→w.cell? ⟨b,off+j,none⟩=some u
theorem bm.keep {w w' : World} {B k n:Nat} {A:Option Addr} {cs:List Value} (h:bm w B k A n cs) (hk:∀ p:Addr,p.block < B→w'.cell? p=w.cell? p):bm w' B k A n cs :=
 ⟨h.len,h.big,fun hn=>by
  obtain ⟨b,off,e,hb,hc⟩:=h.at_ hn
  exact ⟨b,off,e,hb,fun j u hu=>(hk _ hb).trans (hc j u hu)⟩⟩
theorem bm.below {w w' : World} {B k n:Nat} {A:Option Addr} {cs:List Value} (h:bm w B k A n cs) (hb:Below B w w'):bm w' B k A n cs:=h.keep fun _ hp=>hb.cell hp
theorem bm.mono {w:World} {B B' k n:Nat} {A:Option Addr} {cs:List Value} (h:bm w B k A n cs) (hB:B≤B'):bm w B' k A n cs :=
 ⟨h.len,h.big,fun hn=>by
  obtain ⟨b,off,e,hb,hc⟩:=h.at_ hn
  exact ⟨b,off,e,oM,hc⟩⟩
theorem bm.up {w w' : World} {B k n:Nat} {A:Option Addr} {cs:List Value} (h:bm w B k A n cs) (hb:Below B w w') (hB:B≤w.heap.size):bm w' w'.heap.size k A n cs :=
 (h.below hb).mono (jT hB hb.size)
theorem bm.then {w w' : World} {k n:Nat} {A:Option Addr} {cs:List Value} (h:bm w w.heap.size k A n cs) (hb:Below w.heap.size w w'):bm w' w'.heap.size k A n cs:=(h.below hb).mono hb.size
theorem bm.nil (w:World) (B k:Nat) (A:Option Addr):bm w B k A 0 []:=⟨sP,oM,fun h=>absurd h oM⟩
theorem fl {α:Type} (enc:α→List Value) (k:Nat) (hk:∀ x,(enc x).length=k):∀ (l:List α) (i:Nat) (h:i < l.length) (j:Nat),j < k→(l.flatMap enc)[i * k+j]?=(enc l[i])[j]?
 | x :: l,0,_,j,hj=>by
  simp only [List.flatMap_cons,Nat.zero_mul,Nat.zero_add,List.getElem_cons_zero]
  rw [List.getElem?_append_left (by rw [hk]; exact hj)]
 | x :: l,i+1,h,j,hj=>by
  have e:(i+1) * k+j=(enc x).length+(i * k+j):=by rw [hk,Nat.succ_mul]; omega
  simp only [List.flatMap_cons,List.getElem_cons_succ]
  rw [e,List.getElem?_append_right oM,Nat.add_sub_cancel_left]
  exact fl enc k hk l i (by simpa using h) j hj
theorem fW {α:Type} (enc:α→List Value) (k:Nat) (hk:∀ x,(enc x).length=k):∀ l:List α,(l.flatMap enc).length=l.length * k
 | []=>by simp
 | x :: l=>by simp only [List.flatMap_cons,List.length_append,fW enc k hk l,hk,List.length_cons,Nat.succ_mul]; omega
def ai (w:World) (g:Nat) (t:TypeId) (cs:List Value):Prop:=w.heap[g]?=some (.cells cs.toArray t (0,0))
section
variable {w w' : World} {g:Nat} {t:TypeId} {cs:List Value}
theorem ai.lt (h:ai w g t cs):g < w.heap.size:=by
 rcases Nat.lt_or_ge g w.heap.size with wQ | xq
 ·exact wQ
 ·unfold ai at h; rw [Array.getElem?_eq_none xq] at h; cases h
theorem ai.cell (h:ai w g t cs) (i:Nat):w.cell? ⟨g,i,none⟩=cs[i]?:=by rw [cell_of_row w g i _ t (0,0) h]; simp
theorem ai.frozen (h:ai w g t cs) (i:Nat):w.frozen? ⟨g,i,none⟩=false:=frozen_of_row w g i _ t h
theorem ai.below {B:Nat} (h:ai w g t cs) (hb:Below B w w') (hg:g < B):ai w' g t cs:=(hb.block g hg).trans h
theorem ai.kept {row:Option Nat} (h:ai w g t cs) (hb:w.grownBy w' row) (hg:some g ≠ row):ai w' g t cs:=(hb.block g h.lt hg).trans h
theorem ai.alloc (h:ai w g t cs) (o:Obj):ai (w.alloc o) g t cs:=(Below.heap_alloc w o g h.lt).trans h
theorem ai.set (h:ai w g t cs) (i:Nat) (u:Value):ai (w.setCell ⟨g,i,none⟩ u) g t (cs.set i u):=by
 have:=heap_setCell_same w g i cs.toArray t u h
 unfold ai; rw [this]; simp
theorem ai.other (h:ai w g t cs) {p:Addr} (hp:g ≠ p.block) (u:Value):ai (w.setCell p u) g t cs:=(Below.heap_setCell w p u g hp).trans h
theorem ai.reads {k n:Nat} (h:ai w g t cs) (hl:cs.length=n * k) (hn:n≤9223372036854775807):bm w w.heap.size k (some ⟨g,0,none⟩) n cs :=
 ⟨hl,hn,fun _=>⟨g,0,rfl,h.lt,fun j u hu=>by rw [Nat.zero_add,h.cell]; exact hu⟩⟩
end
theorem ai.new (w:World) (t:TypeId) (cs:Array Value):ai (w.alloc (.cells cs t)) w.heap.size t cs.toList:=heap_alloc_new w _
theorem ai.of {w:World} {g:Nat} {t:TypeId} {cs:Array Value} (h:w.heap[g]?=some (.cells cs t (0,0))):ai w g t cs.toList:=h
theorem ai.own {w:World} {g:Nat} {t:TypeId} {cs:List Value} (h:ai w g t cs) {B k n:Nat} (hB:B≤g) (hl:cs.length=n * k) (hn:n≤maxLen):w.ownsRow B t k (F (some ⟨g,0,none⟩) n n) n cs:=by
 refine ⟨hl,Or.inr ⟨g,n,_,rfl,hB,h,Nat.le_refl _,hn,by simpa using hl, ?_⟩⟩
 simp only
 exact List.take_of_length_le oM
def aZ (cs:List Value) (i:Nat) (vs:List Value):List Value:=cs.take i++vs++cs.drop (i+vs.length)
theorem jq {P:Program} (t e:TypeId) (z:Value) (size bytes:Nat) (ht:P.underlying t=some (.slice e)) (hinfo:(P.info? e).map (fun i=>(i.zero,i.size,i.bytes))=some (some z,size,bytes))
  (n:Nat) (hbytes:bytes * n≤140737488355328) (h63:n≤9223372036854775807) (w:World) :
  (Instr.makeSlice t (O U (n:Int)) (O U (n:Int))).run P w=.ok (F (some ⟨w.heap.size,0,none⟩) n n) (w.alloc (.cells (madeCells z.cells (n * size)) e)):=by
 obtain ⟨i,hi,hz,hs,hb⟩:=info_parts hinfo
 have hb' : (i.bytes:Int) * (n:Int)≤281474976710656:=by
  have h:((i.bytes * n:Nat):Int)≤281474976710656:=by rw [hb]; omega
  rwa [Int.natCast_mul] at h
 have hr:=run_make (P:=P) w t e i z ht hi hz .i64 .i64 n n oM oM hb' oM
 simp only [Int.toNat_natCast] at hr
 rw [← hs]
 exact hr
theorem sA {α:Type _} (l:List α) (i:Nat) (a:α):l.toArray.setIfInBounds i a=(l.set i a).toArray:=sP
theorem gs0 {α:Type _} {x y:α} {l:List α}:(x::l).set 0 y=y::l:=List.set_cons_zero
theorem gs1 {α:Type _} {x y:α} {l:List α} {n:Nat}:(x::l).set (n+1) y=x::l.set n y:=List.set_cons_succ
theorem bR {p:Prop} {B:Nat} {w:World} (_:p):Below B w w:=Below.refl _ _
theorem cells2 {w:World} {g:Nat} {t:TypeId} {a0 a1:Value} {r:List Value} (h:ai w g t (a0::a1::r)):w.cell? ⟨g,0,none⟩=some a0∧w.cell? ⟨g,1,none⟩=some a1:=⟨h.cell 0,h.cell 1⟩
theorem frz2 {w:World} {g:Nat} {t:TypeId} {cs:List Value} (h:ai w g t cs):w.frozen? ⟨g,0,none⟩=false∧w.frozen? ⟨g,1,none⟩=false:=⟨h.frozen 0,h.frozen 1⟩
theorem cells3 {w:World} {g:Nat} {t:TypeId} {a0 a1 a2:Value} {r:List Value} (h:ai w g t (a0::a1::a2::r)):w.cell? ⟨g,0,none⟩=some a0∧w.cell? ⟨g,1,none⟩=some a1∧w.cell? ⟨g,2,none⟩=some a2:=⟨h.cell 0,h.cell 1,h.cell 2⟩
theorem frz3 {w:World} {g:Nat} {t:TypeId} {cs:List Value} (h:ai w g t cs):w.frozen? ⟨g,0,none⟩=false∧w.frozen? ⟨g,1,none⟩=false∧w.frozen? ⟨g,2,none⟩=false:=⟨h.frozen 0,h.frozen 1,h.frozen 2⟩
theorem cells4 {w:World} {g:Nat} {t:TypeId} {a0 a1 a2 a3:Value} {r:List Value} (h:ai w g t (a0::a1::a2::a3::r)):w.cell? ⟨g,0,none⟩=some a0∧w.cell? ⟨g,1,none⟩=some a1∧w.cell? ⟨g,2,none⟩=some a2∧w.cell? ⟨g,3,none⟩=some a3:=⟨h.cell 0,h.cell 1,h.cell 2,h.cell 3⟩
theorem frz4 {w:World} {g:Nat} {t:TypeId} {cs:List Value} (h:ai w g t cs):w.frozen? ⟨g,0,none⟩=false∧w.frozen? ⟨g,1,none⟩=false∧w.frozen? ⟨g,2,none⟩=false∧w.frozen? ⟨g,3,none⟩=false:=⟨h.frozen 0,h.frozen 1,h.frozen 2,h.frozen 3⟩
theorem cells5 {w:World} {g:Nat} {t:TypeId} {a0 a1 a2 a3 a4:Value} {r:List Value} (h:ai w g t (a0::a1::a2::a3::a4::r)):w.cell? ⟨g,0,none⟩=some a0∧w.cell? ⟨g,1,none⟩=some a1∧w.cell? ⟨g,2,none⟩=some a2∧w.cell? ⟨g,3,none⟩=some a3∧w.cell? ⟨g,4,none⟩=some a4:=⟨h.cell 0,h.cell 1,h.cell 2,h.cell 3,h.cell 4⟩
theorem frz5 {w:World} {g:Nat} {t:TypeId} {cs:List Value} (h:ai w g t cs):w.frozen? ⟨g,0,none⟩=false∧w.frozen? ⟨g,1,none⟩=false∧w.frozen? ⟨g,2,none⟩=false∧w.frozen? ⟨g,3,none⟩=false∧w.frozen? ⟨g,4,none⟩=false:=⟨h.frozen 0,h.frozen 1,h.frozen 2,h.frozen 3,h.frozen 4⟩
theorem cells8 {w:World} {g:Nat} {t:TypeId} {a0 a1 a2 a3 a4 a5 a6 a7:Value} {r:List Value} (h:ai w g t (a0::a1::a2::a3::a4::a5::a6::a7::r)):w.cell? ⟨g,0,none⟩=some a0∧w.cell? ⟨g,1,none⟩=some a1∧w.cell? ⟨g,2,none⟩=some a2∧w.cell? ⟨g,3,none⟩=some a3∧w.cell? ⟨g,4,none⟩=some a4∧w.cell? ⟨g,5,none⟩=some a5∧w.cell? ⟨g,6,none⟩=some a6∧w.cell? ⟨g,7,none⟩=some a7:=⟨h.cell 0,h.cell 1,h.cell 2,h.cell 3,h.cell 4,h.cell 5,h.cell 6,h.cell 7⟩
theorem frz8 {w:World} {g:Nat} {t:TypeId} {cs:List Value} (h:ai w g t cs):w.frozen? ⟨g,0,none⟩=false∧w.frozen? ⟨g,1,none⟩=false∧w.frozen? ⟨g,2,none⟩=false∧w.frozen? ⟨g,3,none⟩=false∧w.frozen? ⟨g,4,none⟩=false∧w.frozen? ⟨g,5,none⟩=false∧w.frozen? ⟨g,6,none⟩=false∧w.frozen? ⟨g,7,none⟩=false:=⟨h.frozen 0,h.frozen 1,h.frozen 2,h.frozen 3,h.frozen 4,h.frozen 5,h.frozen 6,h.frozen 7⟩
theorem gz0 {α:Type _} {a:α} {l:List α}:(a::l)[0]?=some a:=List.getElem?_cons_zero
theorem gz1 {α:Type _} {a:α} {l:List α} {i:Nat}:(a::l)[i+1]?=l[i]?:=List.getElem?_cons_succ
theorem mC {α:Type _} {a b:α} {l:List α}:a ∈ b::l ↔ a=b ∨ a ∈ l:=List.mem_cons
theorem mN {α:Type _} {a:α}:¬ a ∈ ([]:List α):=List.not_mem_nil
theorem oF (p:Prop):(p ∨ False)=p:=or_false p
theorem gR {p:Prop} {w:World} {r:Option Nat} (_:p):w.grownBy w r:=World.grownBy.refl _ _
theorem nq {p q:Prop} (h:¬p:=by decide) (hp:p):q:=(h hp).elim
theorem aD {p:Prop} (h:p:=by first | assumption | exact ⟨dD,dD⟩):p:=h
theorem bZ (w:World) (o:Obj):Below w.heap.size w (w.alloc o):=(Below.refl w.heap.size w).alloc nR o
theorem aA {a b c:World} {row:Option Nat} (h:a.grownBy b row) (k:b.grownBy c row):a.grownBy c row :=
 ⟨k.os.trans h.os,k.tape.trans h.tape,k.output.trans h.output,jT h.size k.size,fun j hj wT=>(k.block j (jL hj h.size) wT).trans (h.block j hj wT)⟩
abbrev bi (l:List Int):List Value:=l.map (Value.int .i64)
theorem jb (l:List Int):(bi l).length=l.length * 1:=sP
abbrev iG (w:World) (B:Nat) (A:Option Addr) (l:List Int):Prop:=bm w B 1 A l.length (bi l)
theorem iG.ints {w:World} {B:Nat} {A:Option Addr} {l:List Int} (h:iG w B A l) (wT:0 < l.length):∃ b off,A=some ⟨b,off,none⟩∧b < B∧∀ i (hi:i < l.length) (p:ap B w),p.val.cell? ⟨b,off+i,none⟩=some (O U l[i]):=by
 obtain ⟨b,off,e,hb,hc⟩:=h.at_ wT
 exact ⟨b,off,e,hb,fun i hi p=>(p.cell hb).trans (hc i _ (by simp [hi]))⟩
def cz (w:World) (B:Nat) (t:TypeId) (k:Nat) (A:Option Addr) (n:Nat) (cs:List Value):Prop :=
 cs.length=n * k∧n≤9223372036854775807∧((A=none∧n=0) ∨ ∃ g rest,A=some ⟨g,0,none⟩∧B≤g∧ai w g t (cs++rest))
theorem cz.of {w:World} {B:Nat} {t:TypeId} {k:Nat} {A:Option Addr} {n c:Nat} {cs:List Value} (h:w.ownsRow B t k (F A n c) n cs):cz w B t k A n cs:=by
 obtain ⟨hl,h | ⟨g,cap,cur,hv,hg,hh,h1,h2,h3,h4⟩⟩:=h
 ·injection h.1 with e1 e2 e3
  exact ⟨hl,oM,.inl ⟨e1,e2⟩⟩
 ·injection hv with e1 e2 e3
  refine ⟨hl,by unfold maxLen at h2; omega,.inr ⟨g,cur.toList.drop (n * k),e1,hg, ?_⟩⟩
  have:cs++cur.toList.drop (n * k)=cur.toList:=by rw [← h4]; exact List.take_append_drop _ _
  rw [this]
  exact ai.of hh
theorem cz.reads {w:World} {B:Nat} {t:TypeId} {k:Nat} {A:Option Addr} {n:Nat} {cs:List Value} (h:cz w B t k A n cs):bm w w.heap.size k A n cs:=by
 obtain ⟨hl,hn,⟨_,h0⟩ | ⟨g,rest,hA,hg,hh⟩⟩:=h
 ·exact ⟨hl,hn,fun h=>by omega⟩
 ·exact ⟨hl,hn,fun _=>⟨g,0,hA,hh.lt,fun j u hu=>by
   rw [Nat.zero_add,hh.cell,List.getElem?_append_left (List.getElem?_eq_some_iff.1 hu).1]; exact hu⟩⟩
theorem cz.kept {w w' : World} {B:Nat} {t:TypeId} {k:Nat} {A:Option Addr} {n:Nat} {cs:List Value} (h:cz w B t k A n cs) {g:Nat} (hg:w.grownBy w' (some g)) (wQ:g < B):cz w' B t k A n cs:=by
 obtain ⟨hl,hn,h0 | ⟨g',rest,hA,hg',hh⟩⟩:=h
 ·exact ⟨hl,hn,.inl h0⟩
 ·exact ⟨hl,hn,.inr ⟨g',rest,hA,hg',hh.kept hg (by intro e; injection e with e; omega)⟩⟩
theorem cz.then {w w' : World} {B:Nat} {t:TypeId} {k:Nat} {A:Option Addr} {n:Nat} {cs:List Value} (h:cz w B t k A n cs) (hb:Below w.heap.size w w'):cz w' B t k A n cs:=by
 obtain ⟨hl,hn,h0 | ⟨g',rest,hA,hg',hh⟩⟩:=h
 ·exact ⟨hl,hn,.inl h0⟩
 ·exact ⟨hl,hn,.inr ⟨g',rest,hA,hg',hh.below hb hh.lt⟩⟩
def ramp:Int→Nat→List Int
 | _,0=>[]
 | k,n+1=>k :: ramp (k+1) n
theorem ij:∀ (k:Int) (n:Nat),(ramp k n).length=n
 | _,0=>rfl
 | k,n+1=>by simp [ramp,ij (k+1) n]
theorem fa {a w:World} {row:Option Nat} (h:a.grownBy w row) (p:Addr) (wQ:p.block < a.heap.size) (wT:some p.block ≠ row):w.cell? p=a.cell? p:=World.cell?_of_block (w:=a) (h.block p.block wQ wT)
theorem cz.held {w:World} {B:Nat} {t:TypeId} {A:Option Addr} {k0:Int} {n:Nat} (h:cz w B t 1 A n (bi (ramp k0 n))):iG w w.heap.size A (Go.Proofs.YtoeoimhemojdeaaGreatDoor.ramp k0 n):=by
 have:=h.reads
 unfold iG; rw [ij]; exact this
theorem ab {a w:World} {g i:Nat} {u:Value} (h:a.grownBy w (some g)):a.grownBy (w.setCell ⟨g,i,none⟩ u) (some g) :=
 ⟨h.os,h.tape,h.output,by simpa [World.setCell] using h.size,fun k hk wT=>(Below.heap_setCell w ⟨g,i,none⟩ u k (fun e=>wT (by rw [e]))).trans (h.block k hk wT)⟩
theorem gw2 (w:World) (g:Nat) (u0 u1:Value):w.grownBy ((w.setCell ⟨g,0,none⟩ u0).setCell ⟨g,1,none⟩ u1) (some g):=ab (ab (World.grownBy.refl w (some g)))
theorem gw3 (w:World) (g:Nat) (u0 u1 u2:Value):w.grownBy (((w.setCell ⟨g,0,none⟩ u0).setCell ⟨g,1,none⟩ u1).setCell ⟨g,2,none⟩ u2) (some g):=ab (ab (ab (World.grownBy.refl w (some g))))
theorem gw4 (w:World) (g:Nat) (u0 u1 u2 u3:Value):w.grownBy ((((w.setCell ⟨g,0,none⟩ u0).setCell ⟨g,1,none⟩ u1).setCell ⟨g,2,none⟩ u2).setCell ⟨g,3,none⟩ u3) (some g):=ab (ab (ab (ab (World.grownBy.refl w (some g)))))
theorem gw5 (w:World) (g:Nat) (u0 u1 u2 u3 u4:Value):w.grownBy (((((w.setCell ⟨g,0,none⟩ u0).setCell ⟨g,1,none⟩ u1).setCell ⟨g,2,none⟩ u2).setCell ⟨g,3,none⟩ u3).setCell ⟨g,4,none⟩ u4) (some g):=ab (ab (ab (ab (ab (World.grownBy.refl w (some g))))))
theorem gw8 (w:World) (g:Nat) (u0 u1 u2 u3 u4 u5 u6 u7:Value):w.grownBy ((((((((w.setCell ⟨g,0,none⟩ u0).setCell ⟨g,1,none⟩ u1).setCell ⟨g,2,none⟩ u2).setCell ⟨g,3,none⟩ u3).setCell ⟨g,4,none⟩ u4).setCell ⟨g,5,none⟩ u5).setCell ⟨g,6,none⟩ u6).setCell ⟨g,7,none⟩ u7) (some g):=ab (ab (ab (ab (ab (ab (ab (ab (World.grownBy.refl w (some g)))))))))
abbrev uG (l:List UInt8):List Value:=l.map fun b=>Value.int .u8 (b.toNat:Int)
abbrev gQ (w:World) (B:Nat) (A:Option Addr) (l:List UInt8):Prop:=bm w B 1 A l.length (uG l)
theorem fJ {a w:World} {row:Option Nat} (h:a.grownBy w row):a.grownBy w.drew row:=⟨h.os,h.tape,h.output,h.size,h.block⟩
theorem nA (n:Int):0≤IntKind.u64.wrap n∧IntKind.u64.wrap n < 18446744073709551616:=by
 simp [IntKind.wrap,IntKind.signed,IntKind.bits]; omega
theorem vX (E:Int) (h0:0≤E) (h1:E < 18446744073709551616):∃ b:Nat,b≤255∧wrap64 (bits .and .u64 E 255)=(b:Int):=by
 refine ⟨E.toNat &&& 255,Nat.and_le_right, ?_⟩
 rw [u64_and E 255 h0 h1 oM oM]
 have he:(255:Int).toNat=255:=rfl
 rw [he]
 have:E.toNat &&& 255≤255:=Nat.and_le_right
 unfold wrap64; omega
def iD (w:World) (g:Nat) (A:Option Addr) (n cap m:Nat):Prop :=
 ∃ (p:Nat) (seed:Int),ai w g 92 [F A n cap,O U p,.int .u64 seed]∧p≤m∧0≤seed∧seed < 18446744073709551616
theorem nB (g:Nat) (A:Option Addr) (cap m:Nat) (bs:List UInt8) (w:World) (hm:m≤1000000000) (hc:iD w g A bs.length cap m) (hr:gQ w g A bs) :
  Calls wH 110 #[.pointer (some ⟨g,0,none⟩)] w fun e w'=>∃ b:Nat,e=.returned (O U b)∧b≤255∧iD w' g A bs.length cap (m+1)∧w.grownBy w' (some g):=by
 obtain ⟨p,seed,hL,hp,KH,FD⟩:=hc
 have hl:=hr.big
 have k0:=hL.cell 0
 have k1:=hL.cell 1
 have k2:=hL.cell 2
 have f1:=hL.frozen 1
 have f2:=hL.frozen 2
 simp only [gz0,gz1] at k0 k1 k2
 by_cases wQ:p < bs.length
 ·obtain ⟨b,off,rfl,hb,hcell⟩:=hr.at_ oM
  have kc:=hcell p (.int .u8 (bs[p].toNat:Int)) (by simp [wQ])
  have hx:bs[p].toNat < 256:=bs[p].toNat_lt
  generalize bs[p].toNat=x at kc hx
  clear hcell hr
  go_enter Tryz.func110,Tryz.ntmps110
  go_wp2
  go_region
  go_wp2
  go_region
  go_wp2
  go_region
  go_wp2
  ·go_ret
   exact ⟨x,rfl,oM,⟨p+1,_,(hL.set 1 _).set 2 _,oM,(nA _).1,(nA _).2⟩,fJ (fJ (fJ (ab (ab (World.grownBy.refl w _)))))⟩
 ·clear hr
  go_enter Tryz.func110,Tryz.ntmps110
  go_wp2
  go_region
  go_wp2
  go_region
  go_wp2
  ·have hw:=nA (IntKind.u64.wrap (IntKind.u64.wrap (seed * 6364136223846793005))+381907)
   obtain ⟨y,hy,he⟩:=vX (IntKind.u64.wrap (IntKind.u64.wrap (IntKind.u64.wrap (seed * 6364136223846793005))+381907) / 1099511627776) (Int.ediv_nonneg hw.1 oM) oM
   rw [he]
   go_ret
   exact ⟨y,rfl,hy,⟨p+1,_,(hL.set 1 _).set 2 _,oM,hw.1,hw.2⟩,fJ (fJ (ab (ab (World.grownBy.refl w _))))⟩
theorem iD.mono {w:World} {g:Nat} {A:Option Addr} {n cap m m' : Nat} (h:iD w g A n cap m) (hm:m≤m'):iD w g A n cap m':=by
 obtain ⟨p,s,h1,h2,h3⟩:=h
 exact ⟨p,s,h1,oM,h3⟩
theorem iD.lt {w:World} {g:Nat} {A:Option Addr} {n cap m:Nat} (h:iD w g A n cap m):g < w.heap.size:=by
 obtain ⟨p,s,h1,_⟩:=h
 exact h1.lt
theorem bm.grown {w w' : World} {B k n g:Nat} {A:Option Addr} {cs:List Value} (h:bm w B k A n cs) (hg:w.grownBy w' (some g)) (hB:B≤g) (BW:g < w.heap.size):bm w' B k A n cs :=
 h.keep fun p hp=>fa hg p oM iE
theorem nC (g:Nat) (A:Option Addr) (cap m n:Nat) (bs:List UInt8) (w:World) (hn:n≤100000) (hm:m≤900000000) (hc:iD w g A bs.length cap m) (hr:gQ w g A bs) :
  Calls wH 63 #[.pointer (some ⟨g,0,none⟩),O U n] w fun e w'=>∃ x:Nat,e=.returned (O U x)∧x≤n - 1∧iD w' g A bs.length cap (m+2)∧w.grownBy w' (some g):=by
 by_cases h1:n≤1
 ·have h1' : (n:Int)≤1:=oM
  go_enter Tryz.func63,Tryz.ntmps63
  go_wp2
  go_ret
  exact ⟨0,rfl,oM,hc.mono oM,World.grownBy.refl w _⟩
 ·have h1' : ¬ (n:Int)≤1:=oM
  have hz:((n:Int) == 0)=false:=by rw [beq_eq_false_iff_ne]; omega
  have Eu:(n:Int) ≠ 0:=oM
  by_cases h2:n≤200
  ·go_enter Tryz.func63,Tryz.ntmps63
   go_wp2_with fail
   refine (nB g A cap m bs _ oM hc hr).mono ?_
   rintro e w1 ⟨b,rfl,hb,zl,zG⟩
   go_wp2
   go_ret
   refine ⟨b % n,by rw [Int.natCast_emod]; rfl, ?_,zl.mono oM,zG⟩
   have:=Nat.mod_lt b (show 0 < n by omega)
   omega
  ·go_enter Tryz.func63,Tryz.ntmps63
   go_wp2_with fail
   refine (nB g A cap m bs _ oM hc hr).mono ?_
   rintro e w1 ⟨b,rfl,hb,zl,zG⟩
   go_wp2_with fail
   refine (nB g A cap (m+1) bs _ oM zl (hr.grown zG nR hc.lt)).mono ?_
   rintro e w2 ⟨b2,rfl,wM,FE,xL⟩
   go_wp2
   go_ret
   refine ⟨(b * 256+b2) % n,by rw [Int.natCast_emod]; rfl, ?_,FE,aA zG xL⟩
   have:=Nat.mod_lt (b * 256+b2) (show 0 < n by omega)
   omega
theorem vF (g:Nat) (A:Option Addr) (cap m n:Nat) (bs:List UInt8) (w:World) (hn:n≤100000) (hm:m≤900000000) (hc:iD w g A bs.length cap m) (hr:gQ w g A bs) :
  Calls wH 62 #[.pointer (some ⟨g,0,none⟩),O U n] w fun e w'=>∃ x:Bool,e=.returned (.bool x)∧iD w' g A bs.length cap (m+2)∧w.grownBy w' (some g):=by
 go_enter Tryz.func62,Tryz.ntmps62
 go_wp2_with fail
 refine (nC g A cap m n bs _ hn hm hc hr).mono ?_
 rintro e w1 ⟨b,rfl,hb,zl,zG⟩
 go_wp2
 go_ret
 exact ⟨_,rfl,zl,zG⟩
theorem l7 (g:Nat) (A A' : Option Addr) (cap c' m:Nat) (bs:List UInt8) (l:List Int) (w:World) (hl:0 < l.length) (hl' : l.length≤100000) (hm:m≤900000000) (hc:iD w g A bs.length cap m) (hr:gQ w g A bs) (hi:iG w w.heap.size A' l) (wT:A'.map (·.block) ≠ some g) :
  Calls wH 73 #[.pointer (some ⟨g,0,none⟩),F A' l.length c'] w fun e w'=>∃ x:Int,e=.returned (O U x)∧x ∈ l∧iD w' g A bs.length cap (m+2)∧w.grownBy w' (some g):=by
 obtain ⟨b,off,rfl,hb,hcell⟩:=hi.at_ hl
 go_enter Tryz.func73,Tryz.ntmps73
 go_wp2_with fail
 refine (nC g A cap m l.length bs _ hl' hm hc hr).mono ?_
 rintro e w1 ⟨x,rfl,hx,zl,zG⟩
 have wQ:x < l.length:=oM
 have kc:w1.cell? ⟨b,off+x,none⟩=some (O U l[x]):=by
  rw [fa zG _ hb (by simpa using wT)]; exact hcell x _ (by simp [wQ])
 have Ax:l[x] ∈ l:=List.getElem_mem wQ
 generalize l[x]=y at kc Ax
 go_wp2
 go_ret
 exact ⟨y,rfl,Ax,zl,zG⟩
structure eZ (w W:World) (g:Nat) (A:Option Addr) (bs:List UInt8) (cap m:Nat):Prop where
 cur:iD W g A bs.length cap m
 rd:gQ W g A bs
 gr:w.grownBy W (some g)
section
variable {w W:World} {g:Nat} {A:Option Addr} {bs:List UInt8} {cap m:Nat}
theorem di {a w:World} {row:Option Nat} (h:a.grownBy w row) (o:Obj):a.grownBy (w.alloc o) row:=aA h (World.grownBy_alloc w o row)
theorem iD.alloc {n:Nat} (h:iD W g A n cap m) (o:Obj):iD (W.alloc o) g A n cap m:=by
 obtain ⟨p,s,h1,h2⟩:=h
 exact ⟨p,s,h1.alloc o,h2⟩
theorem iD.kept {W' : World} {n:Nat} {row:Option Nat} (h:iD W g A n cap m) (hb:W.grownBy W' row) (wT:some g ≠ row):iD W' g A n cap m:=by
 obtain ⟨p,s,h1,h2⟩:=h
 exact ⟨p,s,h1.kept hb wT,h2⟩
theorem eZ.alloc (E:eZ w W g A bs cap m) (o:Obj):eZ w (W.alloc o) g A bs cap m :=
 ⟨E.cur.alloc o,E.rd.grown (World.grownBy_alloc W o (some g)) nR E.cur.lt,di E.gr o⟩
theorem eZ.lt (E:eZ w W g A bs cap m):g < W.heap.size:=E.cur.lt
theorem eZ.wrote {W' : World} {h:Nat} (E:eZ w W g A bs cap m) (hb:W.grownBy W' (some h)) (hw:w.heap.size≤h) (NC:g < h):eZ w W' g A bs cap m :=
  ⟨E.cur.kept hb iE, E.rd.keep fun p hp => fa hb p (by have := E.lt; omega) iE,
   ⟨hb.os.trans E.gr.os, hb.tape.trans E.gr.tape, hb.output.trans E.gr.output, jT E.gr.size hb.size, fun j hj hn => (hb.block j (jL hj E.gr.size) iE).trans (E.gr.block j hj hn)⟩⟩
theorem eZ.mono {m' : Nat} (E:eZ w W g A bs cap m) (hm:m≤m'):eZ w W g A bs cap m':=⟨E.cur.mono hm,E.rd,E.gr⟩
theorem eZ.next {W' : World} {m' : Nat} (E:eZ w W g A bs cap m) (hc:iD W' g A bs.length cap m') (hg:W.grownBy W' (some g)):eZ w W' g A bs cap m' :=
 ⟨hc,E.rd.grown hg nR E.lt,aA E.gr hg⟩
theorem eZ.start (hc:iD w g A bs.length cap m) (hr:gQ w g A bs):eZ w w g A bs cap m:=⟨hc,hr,World.grownBy.refl w _⟩
theorem dF (E:eZ w W g A bs cap m) (n:Nat) (hn:n≤100000) (hm:m≤900000000) :
  Calls wH 63 #[.pointer (some ⟨g,0,none⟩),O U n] W fun e w'=>∃ x:Nat,e=.returned (O U x)∧x≤n - 1∧eZ w w' g A bs cap (m+2)∧W.grownBy w' (some g) :=
 (nC g A cap m n bs W hn hm E.cur E.rd).mono fun _ _ ⟨x,he,hx,hc,hg⟩=>⟨x,he,hx,E.next hc hg,hg⟩
theorem kw (E:eZ w W g A bs cap m) (n:Nat) (hn:n≤100000) (hm:m≤900000000) :
  Calls wH 62 #[.pointer (some ⟨g,0,none⟩),O U n] W fun e w'=>∃ x:Bool,e=.returned (.bool x)∧eZ w w' g A bs cap (m+2)∧W.grownBy w' (some g) :=
 (vF g A cap m n bs W hn hm E.cur E.rd).mono fun _ _ ⟨x,he,hc,hg⟩=>⟨x,he,E.next hc hg,hg⟩
theorem l8 (E:eZ w W g A bs cap m) (l:List Int) (k:Nat) (hk:l.length=k) (vs:Array Value) (hv:vs.toList=bi l) (hl:0 < k) (hl' : k≤100000) (hm:m≤900000000) :
  Calls wH 73 #[.pointer (some ⟨g,0,none⟩),F (some ⟨W.heap.size,0,none⟩) k k] (W.alloc (.cells vs 3)) fun e w'=>∃ x:Int,e=.returned (O U x)∧x ∈ l∧eZ w w' g A bs cap (m+2)∧W.grownBy w' (some g):=by
 subst hk
 have E1:=E.alloc (.cells vs 3)
 have hL:=ai.new W 3 vs
 rw [hv] at hL
 have hi:iG (W.alloc (.cells vs 3)) (W.alloc (.cells vs 3)).heap.size (some ⟨W.heap.size,0,none⟩) l:=hL.reads (jb l) oM
 refine (l7 g A _ cap _ m bs l _ hl hl' hm E1.cur E1.rd hi (by have:=E.lt; intro e; injection e with e; simp only at e; omega)).mono ?_
 rintro e w' ⟨x,he,hx,hc,hg⟩
 exact ⟨x,he,hx,E1.next hc hg,aA (World.grownBy_alloc W _ _) hg⟩
end
section
variable {P:Program} {ops:Array Oper} {Q:Exit→Act→World→Prop} {md:Region.Mode}
def ax (vs:Nat→Value):List Oper→Nat→Act→Act
 | [],_,a=>a
 | o :: l,k,a=>ax vs l (k+1) (a.put o.dst (vs k))
def eB:List Oper→Bool
 | []=>true
 | o :: l=>l.all (fun p=>match o.dst with | none=>true | some d=>p.dst != some d) && eB l
def rL (vs:Nat→Value) (i:Nat) (v:Value):Nat→Value:=fun j=>if j=i then v else vs j
theorem mI (vs:Nat→Value) {d:Option Tmp} {v:Value} : ∀ (l:List Oper) (k:Nat) (a:Act),(∀ p ∈ l,∀ t,d=some t→p.dst ≠ some t)→(ax vs l k a).put d v=ax vs l k (a.put d v)
 | [],_,_,_=>rfl
 | o :: l,k,a,h=>by
  unfold ax
  rw [mI vs l (k+1) _ (fun p hp=>h p (List.mem_cons_of_mem _ hp))]
  rw [Act.put_comm a (vs k) v (x:=o.dst) (y:=d) (fun t ht hd=>h o sP t hd ht)]
theorem kP {vs vs' : Nat→Value} : ∀ (l:List Oper) (k:Nat) (a:Act),(∀ j,k≤j→vs j=vs' j)→ax vs l k a=ax vs' l k a
 | [],_,_,_=>rfl
 | o :: l,k,a,h=>by
  unfold ax
  rw [h k nR,kP l (k+1) _ (fun j hj=>h j oM)]
theorem Act.put_put (a:Act) (d:Option Tmp) (u v:Value):(a.put d u).put d v=a.put d v:=by
 cases d with
 | none=>rfl
 | some d =>
  simp only [Act.put]
  congr 1
  apply Array.ext sP
  intro i h1 h2
  simp
theorem iH:∀ (l:List Oper) (k:Nat) (a:Act) (vs:Nat→Value) (i:Nat) (o:Oper) (v:Value),eB l=true→l[i]?=some o →
  (ax vs l k a).put o.dst v=ax (rL vs (k+i) v) l k a
 | [],_,_,_,_,_,_,_,h=>by simp at h
 | p :: l,k,a,vs,0,o,v,hd,h=>by
  simp only [List.getElem?_cons_zero,Option.some.injEq] at h; subst h
  simp only [eB,Bool.and_eq_true,List.all_eq_true] at hd
  unfold ax
  rw [mI vs l (k+1) _ (fun q hq t ht=>by
   have:=hd.1 q hq; rw [ht] at this; simpa using this),Act.put_put]
  rw [kP (vs:=vs) (vs':=rL vs (k+0) v) l (k+1) _ (fun j hj=>by unfold rL; rw [if_neg oM])]
  congr 2
  simp [rL]
 | p :: l,k,a,vs,i+1,o,v,hd,h=>by
  simp only [eB,Bool.and_eq_true] at hd
  unfold ax
  rw [iH l (k+1) _ vs i o v hd.2 (by simpa using h)]
  have:k+1+i=k+(i+1):=oM
  rw [this]
  congr 2
  unfold rL; rw [if_neg oM]
theorem Act.put_self (a:Act) (t:Tmp) (u:Value):a.put (some t) (a.tmps.getD t u)=a:=by
 simp only [Act.put]
 obtain ⟨tmps,defers⟩:=a
 congr 1
 apply Array.ext_getElem?
 intro i
 by_cases e:t=i
 ·subst e
  by_cases h2:t < tmps.size
  ·simp [h2]
  ·simp [h2]
 ·rw [Array.getElem?_setIfInBounds_ne e]
theorem gX (vs:Nat→Value):∀ (l:List Oper) (k:Nat) (a:Act),(∀ i o t,l[i]?=some o→o.dst=some t→vs (k+i)=a.tmps.getD t undef)→ax vs l k a=a
 | [],_,_,_=>rfl
 | o :: l,k,a,h=>by
  unfold ax
  have e:a.put o.dst (vs k)=a:=by
   cases hd:o.dst with
   | none=>rfl
   | some t =>
    have h0:=h 0 o t sP hd
    rw [Nat.add_zero] at h0
    rw [h0,Act.put_self]
  rw [e]
  exact gX vs l (k+1) a (fun i o' t h1 h2=>by
   have:=h (i+1) o' t (by simpa using h1) h2
   rwa [show k+(i+1)=k+1+i by omega] at this)
def bU (md:Region.Mode) (ops:Array Oper):Nat→Nat→Nat→Bool
 | 0,_,_=>false
 | fuel+1,k,j=>match ops[k]? with
  | none=>false
  | some o=>o.after.any fun e=>Region.binds md e && (e.on == j || bU md ops fuel e.on j)
def fN (md:Region.Mode) (ops:Array Oper):Bool :=
 (List.range ops.size).all fun k=>match ops[k]? with
  | none=>true
  | some o=>o.after.all fun e=>!Region.binds md e || decide (e.on < k)
def pF (md:Region.Mode) (ops:Array Oper) (listed:Array Bool):Prop :=
 ∀ j o,ops[j]?=some o→listed.getD j false=true→∀ e ∈ o.after,Region.binds md e=true→listed.getD e.on false=true
theorem cQ {listed:Array Bool} (hc:pF md ops listed):∀ (fuel k j:Nat),(∀ o,ops[k]?=some o→∀ e ∈ o.after,Region.binds md e=true→listed.getD e.on false=true)→bU md ops fuel k j=true→listed.getD j false=true
 | 0,_,_,_,h=>by simp [bU] at h
 | fuel+1,k,j,hk,h=>by
  unfold bU at h
  cases ho:ops[k]? with
  | none=>simp [ho] at h
  | some o =>
   simp only [ho] at h
   obtain ⟨e,he,hb⟩:=Array.any_eq_true'.1 h
   simp only [Bool.and_eq_true,Bool.or_eq_true,beq_iff_eq] at hb
   have h1:=hk o ho e he hb.1
   rcases hb.2 with h2 | h2
   ·rw [← h2]; exact h1
   ·exact cQ hc fuel e.on j (fun o' ho'=>hc e.on o' ho' h1) h2
def iI (P:Program) (ops:Array Oper) (Q:Exit→Act→World→Prop) (C:World→Prop) (T:World→World→Prop) (fr:(Nat→Value)→Act):Nat→List Oper→List (Value→World→Prop)→Prop
 | _,[],Rs=>∀ vs w,C w→(∀ (j:Nat) (R:Value→World→Prop),Rs[j]?=some R→R (vs j) w)→Q .normal (fr vs) w
 | k,o :: l,Rs=>∃ R:Value→World→Prop,(∀ v w w',R v w→T w w'→R v w') ∧
  (∀ vs w,C w→(∀ (j:Nat) (R' : Value→World→Prop),bU .any ops ops.size k j=true→Rs[j]?=some R'→R' (vs j) w)→∀ K:Act→World→Prop,(∀ a' v w',a'=(fr vs).put o.dst v→R v w'→C w'→T w w'→K a' w') →
   if Region.wanted o (yielded ops (fr vs).tmps)=true then o.wp P (fr vs) w K Q else K ((fr vs).put o.dst undef) w) ∧
  iI P ops Q C T fr (k+1) l (Rs++[R])
theorem mJ {C:World→Prop} {T:World→World→Prop} {fr:(Nat→Value)→Act} : ∀ (l:List Oper) (k:Nat) (Rs:List (Value→World→Prop)),(∀ i,l[i]?=ops[k+i]?)→Rs.length=k →
  (∀ (j:Nat) (R:Value→World→Prop),Rs[j]?=some R→∀ v w w',R v w→T w w'→R v w') →
  (∀ (j:Nat) (o:Oper) (R:Value→World→Prop),j < k→ops[j]?=some o→Rs[j]?=some R→∀ vs w,C w→(∀ (j' : Nat) (R' : Value→World→Prop),bU .any ops ops.size j j'=true→j' < j→Rs[j']?=some R'→R' (vs j') w)→∀ K:Act→World→Prop,(∀ a' v w',a'=(fr vs).put o.dst v→R v w'→C w'→T w w'→K a' w') →
   if Region.wanted o (yielded ops (fr vs).tmps)=true then o.wp P (fr vs) w K Q else K ((fr vs).put o.dst undef) w) →
  iI P ops Q C T fr k l Rs →
  ∃ Rs' : List (Value→World→Prop),Rs'.length=k+l.length∧(∀ (j:Nat) (R:Value→World→Prop),Rs'[j]?=some R→∀ v w w',R v w→T w w'→R v w') ∧
  (∀ (j:Nat) (o:Oper) (R:Value→World→Prop),ops[j]?=some o→Rs'[j]?=some R→∀ vs w,C w→(∀ (j' : Nat) (R' : Value→World→Prop),bU .any ops ops.size j j'=true→j' < j→Rs'[j']?=some R'→R' (vs j') w)→∀ K:Act→World→Prop,(∀ a' v w',a'=(fr vs).put o.dst v→R v w'→C w'→T w w'→K a' w') →
   if Region.wanted o (yielded ops (fr vs).tmps)=true then o.wp P (fr vs) w K Q else K ((fr vs).put o.dst undef) w) ∧
  (∀ vs w,C w→(∀ (j:Nat) (R:Value→World→Prop),Rs'[j]?=some R→R (vs j) w)→Q .normal (fr vs) w)
 | [],k,Rs,hl,wR,xl,AT,h=>by
  refine ⟨Rs,by simpa using wR,xl,fun j o R ho hR=>AT j o R ?_ ho hR,h⟩
  rw [← wR]; exact (List.getElem?_eq_some_iff.1 hR).1
 | o :: l,k,Rs,hl,wR,xl,AT,h=>by
  obtain ⟨R,FR,FT,hrest⟩:=h
  have ho:ops[k]?=some o:=by simpa using (hl 0).symm
  have hold:∀ j,j < k→(Rs++[R])[j]?=Rs[j]?:=fun j hj=>List.getElem?_append_left oM
  have zt:(Rs++[R])[k]?=some R:=by rw [List.getElem?_append_right oM,wR]; simp
  obtain ⟨Rs',h1,h2,h3,h4⟩:=mJ l (k+1) (Rs++[R]) (fun i=>by have:=hl (i+1); simpa [Nat.add_assoc,Nat.add_comm 1 i] using this) (by simp [wR])
   (fun j R' xE=>by
    rcases Nat.lt_trichotomy j k with hj | hj | hj
    ·rw [hold j hj] at xE; exact xl j R' xE
    ·subst hj; rw [zt] at xE; cases xE; exact FR
    ·rw [List.getElem?_eq_none (by simp [wR]; omega)] at xE; cases xE)
   (fun j o' R' hj ho' xE vs w hC hB K hK=>by
    rcases Nat.lt_or_ge j k with CC | CC
    ·rw [hold j CC] at xE
     exact AT j o' R' CC ho' xE vs w hC (fun j' R'' ha wQ h''=>hB j' R'' ha wQ (by rw [hold j' oM]; exact h'')) K hK
    ·obtain rfl:j=k:=oM
     rw [ho] at ho'; cases ho'
     rw [zt] at xE; cases xE
     refine FT vs w hC (fun j' R'' ha h''=>?_) K hK
     have wQ:j' < Rs.length:=(List.getElem?_eq_some_iff.1 h'').1
     exact hB j' R'' ha oM (by rw [hold j' oM]; exact h''))
   hrest
  exact ⟨Rs',by rw [h1]; simp; omega,h2,h3,h4⟩
theorem gY {listed:Array Bool} (AU:fN .any ops=true) (xQ:listed.size=ops.size) (hr:Region.ready .any ops listed = []):∀ j,j < ops.size→listed.getD j false=true:=by
 intro j
 induction j using Nat.strongRecOn with
 | ind j ih =>
  intro hj
  rcases hb:listed.getD j false with _ | _
  ·exfalso
   have Ax:j ∈ Region.ready .any ops listed:=by
    rw [mem_ready]
    refine ⟨?_,ops[j],Array.getElem?_eq_getElem hj,fun e he Bg=>?_⟩
    ·have:j < listed.size:=oM
     simp only [Array.getD,this,↓reduceDIte] at hb ⊢
     exact hb
    ·have h1:=List.all_eq_true.1 AU j (List.mem_range.2 hj)
     rw [Array.getElem?_eq_getElem hj] at h1
     have h2:=Array.all_eq_true_iff_forall_mem.1 h1 e he
     simp only [Bg,Bool.not_true,Bool.false_or,decide_eq_true_eq] at h2
     exact ih e.on h2 oM
   rw [hr] at Ax; cases Ax
  ·rfl
def eR (n:Nat) (listed:Array Bool):Nat:=((List.range n).filter fun j=>!listed.getD j false).length
theorem fm {n i:Nat} {listed:Array Bool} (hi:i < n) (hs:listed.size=n) (h:listed.getD i false=false):eR n (listed.setIfInBounds i true) < eR n listed:=by
 unfold eR
 have e:∀ l:List Nat,(l.filter fun j=>!(listed.setIfInBounds i true).getD j false)=(l.filter fun j=>!listed.getD j false).filter (fun j=>j != i):=by
  intro l
  rw [List.filter_filter]
  apply List.filter_congr
  intro j _
  by_cases yT:j=i
  ·subst yT; have:j < listed.size:=oM
   simp [this]
  ·rw [getD_set_ne false (Ne.symm yT)]; simp [yT]
 rw [e]
 have hm:i ∈ (List.range n).filter fun j=>!listed.getD j false:=List.mem_filter.2 ⟨List.mem_range.2 hi,by rw [h]; rfl⟩
 generalize (List.range n).filter (fun j=>!listed.getD j false)=l at hm
 clear e
 induction l with
 | nil=>cases hm
 | cons x l ih =>
  rw [List.filter_cons]
  split
  ·rename_i hx
   rcases List.mem_cons.1 hm with h' | h'
   ·simp [h'] at hx
   ·simpa using ih h'
  ·exact Nat.lt_succ_of_le (List.length_filter_le _ _)
theorem qu {C:World→Prop} {T:World→World→Prop} {a₀:Act} (Ai:eB ops.toList=true) (AU:fN .any ops=true) (Rs:List (Value→World→Prop)) (wR:Rs.length=ops.size)
  (xl:∀ (j:Nat) (R:Value→World→Prop),Rs[j]?=some R→∀ v w w',R v w→T w w'→R v w')
  (AT:∀ (j:Nat) (o:Oper) (R:Value→World→Prop),ops[j]?=some o→Rs[j]?=some R→∀ vs w,C w→(∀ (j' : Nat) (R' : Value→World→Prop),bU .any ops ops.size j j'=true→j' < j→Rs[j']?=some R'→R' (vs j') w)→∀ K:Act→World→Prop,(∀ a' v w',a'=(ax vs ops.toList 0 a₀).put o.dst v→R v w'→C w'→T w w'→K a' w') →
   if Region.wanted o (yielded ops (ax vs ops.toList 0 a₀).tmps)=true then o.wp P (ax vs ops.toList 0 a₀) w K Q else K ((ax vs ops.toList 0 a₀).put o.dst undef) w)
  (Ev:∀ vs w,C w→(∀ (j:Nat) (R:Value→World→Prop),Rs[j]?=some R→R (vs j) w)→Q .normal (ax vs ops.toList 0 a₀) w) :
  ∀ (fuel:Nat) (listed:Array Bool) (vs:Nat→Value) (w:World),listed.size=ops.size→eR ops.size listed≤fuel→pF .any ops listed→C w→(∀ (j:Nat) (R:Value→World→Prop),listed.getD j false=true→Rs[j]?=some R→R (vs j) w) →
   wpAny P .any ops Q fuel listed (ax vs ops.toList 0 a₀) w:=by
 have CD:∀ (listed:Array Bool) (vs:Nat→Value) (w:World),listed.size=ops.size→C w→(∀ (j:Nat) (R:Value→World→Prop),listed.getD j false=true→Rs[j]?=some R→R (vs j) w)→Region.ready .any ops listed = []→Q .normal (ax vs ops.toList 0 a₀) w :=
  fun listed vs w hs hC hR hr=>Ev vs w hC fun j R hj=>hR j R (gY AU hs hr j (by rw [← wR]; exact (List.getElem?_eq_some_iff.1 hj).1)) hj
 intro fuel
 induction fuel with
 | zero =>
  intro listed vs w hs hu xY hC hR
  have hr:Region.ready .any ops listed = []:=by
   rw [List.eq_nil_iff_forall_not_mem]
   intro j hj
   obtain ⟨h0,o,ho,_⟩:=mem_ready.1 hj
   have Ht:j < ops.size:=(Array.getElem?_eq_some_iff.1 ho).1
   have:eR ops.size (listed.setIfInBounds j true) < eR ops.size listed:=fm Ht hs (by
    have:j < listed.size:=oM
    simp only [Array.getD,this,↓reduceDIte] at h0 ⊢; exact h0)
   omega
  exact ⟨hr,CD listed vs w hs hC hR hr⟩
 | succ fuel ih =>
  intro listed vs w hs hu xY hC hR
  refine ⟨CD listed vs w hs hC hR,fun i hi=>?_⟩
  obtain ⟨h0,o,ho,xF⟩:=mem_ready.1 hi
  have CE:i < ops.size:=(Array.getElem?_eq_some_iff.1 ho).1
  have zm:i < listed.size:=oM
  have h0' : listed.getD i false=false:=by simp only [Array.getD,zm,↓reduceDIte] at h0 ⊢; exact h0
  obtain ⟨R,Em⟩ : ∃ R,Rs[i]?=some R:=⟨Rs[i]'oM,List.getElem?_eq_getElem oM⟩
  have hstep:=AT i o R ho Em vs w hC (fun j' R' ha _ xE=>hR j' R' (cQ xY ops.size i j' (fun o' ho'=>by rw [ho] at ho'; cases ho'; exact xF) ha) xE)
   (wpAny P .any ops Q fuel (listed.setIfInBounds i true)) (fun a' v w' ha FU CF hT=>by
    rw [ha,iH ops.toList 0 a₀ vs i o v Ai (by simpa using ho),Nat.zero_add]
    refine ih _ _ _ (by simpa using hs) ?_ ?_ CF ?_
    ·have:=fm CE hs h0'; omega
    ·intro j oj CG hj e he hb
     by_cases yT:j=i
     ·subst yT; rw [ho] at CG; cases CG; exact getD_set_true (xF e he hb)
     ·rw [getD_set_ne false (Ne.symm yT)] at hj; exact getD_set_true (xY j oj CG hj e he hb)
    ·intro j R' hj xE
     by_cases yT:j=i
     ·subst yT; rw [Em] at xE; cases xE; simpa [rL] using FU
     ·rw [getD_set_ne false (Ne.symm yT)] at hj
      have:=xl j R' xE _ _ _ (hR j R' hj xE) hT
      simpa [rL,yT] using this)
  unfold wpOp
  simp only [ho]
  split
  ·rename_i hw; rw [if_pos hw] at hstep; exact .inl hstep
  ·rename_i hw; rw [if_neg hw] at hstep; exact hstep
theorem gS {id:Nat} {a:Act} {w:World} {l:List Oper} (C:World→Prop) (T:World→World→Prop) (hm:P.follows .mixedOrders=true) (Ai:eB l=true) (AU:fN .any l.toArray=true)
  (hC:C w.drew) (h:iI P l.toArray Q C T (fun vs=>ax vs l 0 a) 0 l []):(Code.region id l.toArray true).wp P Q a w:=by
 refine wp_region_any hm ?_
 obtain ⟨Rs,h1,h2,h3,h4⟩:=mJ (ops:=l.toArray) l 0 [] sP rfl sP sP h
 obtain ⟨vs,Aj⟩ : ∃ vs:Nat→Value,∀ i o t,l[i]?=some o→o.dst=some t→vs (0+i)=a.tmps.getD t undef :=
  ⟨fun i=>match (l[i]?).bind (·.dst) with | some t=>a.tmps.getD t undef | none=>undef,fun i o t hi ht=>by simp [hi,ht]⟩
 have:=qu (P:=P) (Q:=Q) (ops:=l.toArray) (C:=C) (T:=T) (a₀:=a) Ai AU Rs (by simpa using h1) h2 h3 h4 l.toArray.size (Array.replicate l.toArray.size false) vs w.drew sP
  (jT (List.length_filter_le _ _) sP) (fun j o hj hl=>by simp [Array.getD] at hl) hC (fun j R hl=>by simp [Array.getD] at hl)
 rwa [gX vs _ 0 a (by simpa using Aj)] at this
theorem jX {C:World→Prop} {T:World→World→Prop} {fr:(Nat→Value)→Act} {k:Nat} {Rs:List (Value→World→Prop)} (h:∀ vs w,C w→(∀ (j:Nat) (R:Value→World→Prop),Rs[j]?=some R→R (vs j) w)→Q .normal (fr vs) w):iI P ops Q C T fr k [] Rs:=h
theorem aL {C:World→Prop} {T:World→World→Prop} {fr:(Nat→Value)→Act} {k:Nat} {o:Oper} {l:List Oper} {Rs:List (Value→World→Prop)} (V:Value)
  (h1:∀ vs w,C w→(∀ (j:Nat) (R' : Value→World→Prop),bU .any ops ops.size k j=true→Rs[j]?=some R'→R' (vs j) w)→∀ K:Act→World→Prop,(∀ a' w',a'=(fr vs).put o.dst V→C w'→T w w'→K a' w') →
   if Region.wanted o (yielded ops (fr vs).tmps)=true then o.wp P (fr vs) w K Q else K ((fr vs).put o.dst undef) w)
  (h2:iI P ops Q C T fr (k+1) l (Rs++[fun v _=>v=V])):iI P ops Q C T fr k (o :: l) Rs :=
 ⟨fun v _=>v=V,fun _ _ _ h _=>h,fun vs w hC hB K hK=>h1 vs w hC hB K fun a' w' ha CF hT=>hK a' V w' ha rfl CF hT,h2⟩
theorem jr {C:World→Prop} {T:World→World→Prop} {fr:(Nat→Value)→Act} {k:Nat} {o:Oper} {l:List Oper} {Rs:List (Value→World→Prop)} (R:Value→World→Prop) (hR:∀ v w w',R v w→T w w'→R v w')
  (h1:∀ vs w,C w→(∀ (j:Nat) (R' : Value→World→Prop),bU .any ops ops.size k j=true→Rs[j]?=some R'→R' (vs j) w)→∀ K:Act→World→Prop,(∀ a' v w',a'=(fr vs).put o.dst v→R v w'→C w'→T w w'→K a' w') →
   if Region.wanted o (yielded ops (fr vs).tmps)=true then o.wp P (fr vs) w K Q else K ((fr vs).put o.dst undef) w)
  (h2:iI P ops Q C T fr (k+1) l (Rs++[R])):iI P ops Q C T fr k (o :: l) Rs :=
 ⟨R,hR,h1,h2⟩
end
structure ag where
 D:Nat
 R:Value→Value→World→Prop
 Br:List Nat:=[]
def ag.at (f:ag) (vs:Nat→Value) (j:Nat) (w:World):Prop:=f.R (vs f.D) (vs j) w
def ag.firm (ops:Array Oper) (T:Nat→World→World→Prop) (j:Nat) (f:ag):Prop:=∀ i,i ≠ j→i ∉ f.Br→bU .any ops ops.size j i=false→∀ u v w w',f.R u v w→T i w w'→f.R u v w'
def ag.live (ops:Array Oper) (k:Nat) (f:ag):Bool:=f.Br.all fun i=>i == k || bU .any ops ops.size i k
def ag.fine (ops:Array Oper) (j:Nat) (f:ag):Prop:=(∀ u u' v w,f.R u v w→f.R u' v w) ∨ bU .any ops ops.size j f.D=true
theorem ag.eq {V:Value} {vs:Nat→Value} {j:Nat} {w:World} (h:ag.at ⟨0,fun _ v _=>v=V,[]⟩ vs j w):vs j=V:=h
structure kM (ops:Array Oper) (L:Nat→Bool) (k:Nat):Prop where
 self:L k=false
 done:∀ j,bU .any ops ops.size k j=true→L j=true
 open_:∀ j,bU .any ops ops.size j k=true→L j=false
def Listed.but (L:Nat→Bool) (k:Nat):Nat→Bool:=fun j=>if j=k then true else L j
section
variable {P:Program} {ops:Array Oper} {Q:Exit→Act→World→Prop}
def fb (P:Program) (ops:Array Oper) (Q:Exit→Act→World→Prop) (C:(Nat→Bool)→World→Prop) (T:Nat→World→World→Prop) (fr:(Nat→Value)→Act):Nat→List Oper→List ag→Prop
 | _,[],Rs=>∀ vs L w,(∀ j,j < ops.size→L j=true)→C L w→(∀ (j:Nat) (R:ag),R.Br = []→Rs[j]?=some R→R.at vs j w)→Q .normal (fr vs) w
 | k,o :: l,Rs=>∃ R:ag,R.fine ops k∧R.firm ops T k ∧
  (∀ vs L w,kM ops L k→C L w→(∀ (j:Nat) (R' : ag),bU .any ops ops.size k j=true→R'.live ops k=true→Rs[j]?=some R'→R'.at vs j w)→∀ K:Act→World→Prop,(∀ a' v w',a'=(fr vs).put o.dst v→R.R (vs R.D) v w'→C (Listed.but L k) w'→T k w w'→K a' w') →
   if Region.wanted o (yielded ops (fr vs).tmps)=true then o.wp P (fr vs) w K Q else K ((fr vs).put o.dst undef) w) ∧
  fb P ops Q C T fr (k+1) l (Rs++[R])
theorem lu {C:(Nat→Bool)→World→Prop} {T:Nat→World→World→Prop} {fr:(Nat→Value)→Act} : ∀ (l:List Oper) (k:Nat) (Rs:List ag),(∀ i,l[i]?=ops[k+i]?)→Rs.length=k →
  (∀ (j:Nat) (R:ag),Rs[j]?=some R→R.fine ops j∧R.firm ops T j) →
  (∀ (j:Nat) (o:Oper) (R:ag),j < k→ops[j]?=some o→Rs[j]?=some R→∀ vs L w,kM ops L j→C L w→(∀ (j' : Nat) (R' : ag),bU .any ops ops.size j j'=true→R'.live ops j=true→j' < j→Rs[j']?=some R'→R'.at vs j' w)→∀ K:Act→World→Prop,(∀ a' v w',a'=(fr vs).put o.dst v→R.R (vs R.D) v w'→C (Listed.but L j) w'→T j w w'→K a' w') →
   if Region.wanted o (yielded ops (fr vs).tmps)=true then o.wp P (fr vs) w K Q else K ((fr vs).put o.dst undef) w) →
  fb P ops Q C T fr k l Rs →
  ∃ Rs' : List ag,Rs'.length=k+l.length∧(∀ (j:Nat) (R:ag),Rs'[j]?=some R→R.fine ops j∧R.firm ops T j) ∧
  (∀ (j:Nat) (o:Oper) (R:ag),ops[j]?=some o→Rs'[j]?=some R→∀ vs L w,kM ops L j→C L w→(∀ (j' : Nat) (R' : ag),bU .any ops ops.size j j'=true→R'.live ops j=true→j' < j→Rs'[j']?=some R'→R'.at vs j' w)→∀ K:Act→World→Prop,(∀ a' v w',a'=(fr vs).put o.dst v→R.R (vs R.D) v w'→C (Listed.but L j) w'→T j w w'→K a' w') →
   if Region.wanted o (yielded ops (fr vs).tmps)=true then o.wp P (fr vs) w K Q else K ((fr vs).put o.dst undef) w) ∧
  (∀ vs L w,(∀ j,j < ops.size→L j=true)→C L w→(∀ (j:Nat) (R:ag),R.Br = []→Rs'[j]?=some R→R.at vs j w)→Q .normal (fr vs) w)
 | [],k,Rs,hl,wR,xl,AT,h=>by
  refine ⟨Rs,by simpa using wR,xl,fun j o R ho hR=>AT j o R ?_ ho hR,h⟩
  rw [← wR]; exact (List.getElem?_eq_some_iff.1 hR).1
 | o :: l,k,Rs,hl,wR,xl,AT,h=>by
  obtain ⟨R,LQ,FR,FT,hrest⟩:=h
  have ho:ops[k]?=some o:=by simpa using (hl 0).symm
  have hold:∀ j,j < k→(Rs++[R])[j]?=Rs[j]?:=fun j hj=>List.getElem?_append_left oM
  have zt:(Rs++[R])[k]?=some R:=by rw [List.getElem?_append_right oM,wR]; simp
  obtain ⟨Rs',h1,h2,h3,h4⟩:=lu l (k+1) (Rs++[R]) (fun i=>by have:=hl (i+1); simpa [Nat.add_assoc,Nat.add_comm 1 i] using this) (by simp [wR])
   (fun j R' xE=>by
    rcases Nat.lt_trichotomy j k with hj | hj | hj
    ·rw [hold j hj] at xE; exact xl j R' xE
    ·subst hj; rw [zt] at xE; cases xE; exact ⟨LQ,FR⟩
    ·rw [List.getElem?_eq_none (by simp [wR]; omega)] at xE; cases xE)
   (fun j o' R' hj ho' xE vs L w hG hC hB K hK=>by
    rcases Nat.lt_or_ge j k with CC | CC
    ·rw [hold j CC] at xE
     exact AT j o' R' CC ho' xE vs L w hG hC (fun j' R'' ha hv wQ h''=>hB j' R'' ha hv wQ (by rw [hold j' oM]; exact h'')) K hK
    ·obtain rfl:j=k:=oM
     rw [ho] at ho'; cases ho'
     rw [zt] at xE; cases xE
     refine FT vs L w hG hC (fun j' R'' ha hv h''=>?_) K hK
     have wQ:j' < Rs.length:=(List.getElem?_eq_some_iff.1 h'').1
     exact hB j' R'' ha hv oM (by rw [hold j' oM]; exact h''))
   hrest
  exact ⟨Rs',by rw [h1]; simp; omega,h2,h3,h4⟩
theorem kQ {i:Nat} {listed:Array Bool} (h:i < listed.size):(listed.setIfInBounds i true).getD i false=true:=by simp [h]
theorem pG {C:(Nat→Bool)→World→Prop} {T:Nat→World→World→Prop} {a₀:Act} (Ai:eB ops.toList=true) (AU:fN .any ops=true) (Rs:List ag) (wR:Rs.length=ops.size)
  (xl:∀ (j:Nat) (R:ag),Rs[j]?=some R→R.fine ops j∧R.firm ops T j)
  (AT:∀ (j:Nat) (o:Oper) (R:ag),ops[j]?=some o→Rs[j]?=some R→∀ vs L w,kM ops L j→C L w→(∀ (j' : Nat) (R' : ag),bU .any ops ops.size j j'=true→R'.live ops j=true→j' < j→Rs[j']?=some R'→R'.at vs j' w)→∀ K:Act→World→Prop,(∀ a' v w',a'=(ax vs ops.toList 0 a₀).put o.dst v→R.R (vs R.D) v w'→C (Listed.but L j) w'→T j w w'→K a' w') →
   if Region.wanted o (yielded ops (ax vs ops.toList 0 a₀).tmps)=true then o.wp P (ax vs ops.toList 0 a₀) w K Q else K ((ax vs ops.toList 0 a₀).put o.dst undef) w)
  (Ev:∀ vs L w,(∀ j,j < ops.size→L j=true)→C L w→(∀ (j:Nat) (R:ag),R.Br = []→Rs[j]?=some R→R.at vs j w)→Q .normal (ax vs ops.toList 0 a₀) w) :
  ∀ (fuel:Nat) (listed:Array Bool) (vs:Nat→Value) (w:World),listed.size=ops.size→eR ops.size listed≤fuel→pF .any ops listed→C (fun j=>listed.getD j false) w→(∀ (j:Nat) (R:ag),listed.getD j false=true→(∀ i ∈ R.Br,listed.getD i false=false)→Rs[j]?=some R→R.at vs j w) →
   wpAny P .any ops Q fuel listed (ax vs ops.toList 0 a₀) w:=by
 have CD:∀ (listed:Array Bool) (vs:Nat→Value) (w:World),listed.size=ops.size→C (fun j=>listed.getD j false) w→(∀ (j:Nat) (R:ag),listed.getD j false=true→(∀ i ∈ R.Br,listed.getD i false=false)→Rs[j]?=some R→R.at vs j w)→Region.ready .any ops listed = []→Q .normal (ax vs ops.toList 0 a₀) w :=
  fun listed vs w hs hC hR hr=>Ev vs _ w (fun j hj=>gY AU hs hr j hj) hC fun j R yM hj=>hR j R (gY AU hs hr j (by rw [← wR]; exact (List.getElem?_eq_some_iff.1 hj).1)) (by rw [yM]; intro i hi; cases hi) hj
 intro fuel
 induction fuel with
 | zero =>
  intro listed vs w hs hu xY hC hR
  have hr:Region.ready .any ops listed = []:=by
   rw [List.eq_nil_iff_forall_not_mem]
   intro j hj
   obtain ⟨h0,o,ho,_⟩:=mem_ready.1 hj
   have Ht:j < ops.size:=(Array.getElem?_eq_some_iff.1 ho).1
   have:eR ops.size (listed.setIfInBounds j true) < eR ops.size listed:=fm Ht hs (by
    have:j < listed.size:=oM
    simp only [Array.getD,this,↓reduceDIte] at h0 ⊢; exact h0)
   omega
  exact ⟨hr,CD listed vs w hs hC hR hr⟩
 | succ fuel ih =>
  intro listed vs w hs hu xY hC hR
  refine ⟨CD listed vs w hs hC hR,fun i hi=>?_⟩
  obtain ⟨h0,o,ho,xF⟩:=mem_ready.1 hi
  have CE:i < ops.size:=(Array.getElem?_eq_some_iff.1 ho).1
  have zm:i < listed.size:=oM
  have h0' : listed.getD i false=false:=by simp only [Array.getD,zm,↓reduceDIte] at h0 ⊢; exact h0
  obtain ⟨R,Em⟩ : ∃ R,Rs[i]?=some R:=⟨Rs[i]'oM,List.getElem?_eq_getElem oM⟩
  have IK:∀ j,bU .any ops ops.size i j=true→listed.getD j false=true:=fun j ha=>cQ xY ops.size i j (fun o' ho'=>by rw [ho] at ho'; cases ho'; exact xF) ha
  have IL:∀ j,bU .any ops ops.size j i=true→listed.getD j false=false:=fun j ha=>by
   rcases hq:listed.getD j false with _ | _
   ·rfl
   ·have hl:=cQ xY ops.size j i (fun o' ho'=>xY j o' ho' hq) ha
    rw [h0'] at hl; cases hl
  have hstep:=AT i o R ho Em vs (fun j=>listed.getD j false) w ⟨h0',IK,IL⟩ hC (fun j' R' ha hv _ xE=>hR j' R' (cQ xY ops.size i j' (fun o' ho'=>by rw [ho] at ho'; cases ho'; exact xF) ha) (fun i' hi'=>by
    have hv':=List.all_eq_true.1 hv i' hi'
    simp only [Bool.or_eq_true,beq_iff_eq] at hv'
    rcases hv' with rfl | hv'
    ·exact h0'
    ·rcases hq:listed.getD i' false with _ | _
     ·rfl
     ·have hl:=cQ xY ops.size i' i (fun o' ho'=>xY i' o' ho' hq) hv'
      rw [h0'] at hl; cases hl) xE)
   (wpAny P .any ops Q fuel (listed.setIfInBounds i true)) (fun a' v w' ha FU CF hT=>by
    rw [ha,iH ops.toList 0 a₀ vs i o v Ai (by simpa using ho),Nat.zero_add]
    have wI:C (fun j=>(listed.setIfInBounds i true).getD j false) w':=by
     have e:(fun j=>(listed.setIfInBounds i true).getD j false)=Listed.but (fun j=>listed.getD j false) i:=by
      funext j
      unfold Listed.but
      by_cases e:j=i
      ·subst e; rw [if_pos rfl]; exact kQ zm
      ·rw [if_neg e]; exact getD_set_ne false (Ne.symm e)
     rw [e]; exact CF
    refine ih _ _ _ (by simpa using hs) ?_ ?_ wI ?_
    ·have:=fm CE hs h0'; omega
    ·intro j oj CG hj e he hb
     by_cases yT:j=i
     ·subst yT; rw [ho] at CG; cases CG; exact getD_set_true (xF e he hb)
     ·rw [getD_set_ne false (Ne.symm yT)] at hj; exact getD_set_true (xY j oj CG hj e he hb)
    ·intro j R' hj yM xE
     have key:∀ (u' : Value),R'.R (vs R'.D) u' w'→R'.R (rL vs i v R'.D) u' w':=fun u' h=>by
      by_cases KI:R'.D=i
      ·rcases (xl j R' xE).1 with hf | ha
       ·exact hf _ _ _ _ h
       ·exfalso
        have hl:listed.getD R'.D false=true:=by
         by_cases yT:j=i
         ·subst yT; exact cQ xY ops.size j _ (fun o' ho'=>by rw [ho] at ho'; cases ho'; exact xF) ha
         ·rw [getD_set_ne false (Ne.symm yT)] at hj
          exact cQ xY ops.size j _ (fun o' ho'=>xY j o' ho' hj) ha
        rw [KI,h0'] at hl; cases hl
      ·have:rL vs i v R'.D=vs R'.D:=by unfold rL; rw [if_neg KI]
       rw [this]; exact h
     unfold ag.at
     by_cases yT:j=i
     ·subst yT; rw [Em] at xE; cases xE
      have:rL vs j v j=v:=by unfold rL; rw [if_pos rfl]
      rw [this]
      exact key v FU
     ·rw [getD_set_ne false (Ne.symm yT)] at hj
      have LR:bU .any ops ops.size j i=false:=by
       rcases hq:bU .any ops ops.size j i with _ | _
       ·rfl
       ·have hl:=cQ xY ops.size j i (fun o' ho'=>xY j o' ho' hj) hq
        rw [h0'] at hl; cases hl
      have KJ:i ∉ R'.Br:=fun hm=>by have h1:=yM i hm; rw [kQ zm] at h1; cases h1
      have hbr' : ∀ i' ∈ R'.Br,listed.getD i' false=false:=fun i' hm=>by
       have h1:=yM i' hm
       by_cases e:i'=i
       ·subst e; exact absurd hm KJ
       ·rwa [getD_set_ne false (Ne.symm e)] at h1
      have h3:=(xl j R' xE).2 i (Ne.symm yT) KJ LR _ _ _ _ (hR j R' hj hbr' xE) hT
      have:rL vs i v j=vs j:=by unfold rL; rw [if_neg yT]
      rw [this]
      refine key _ ?_
      exact h3)
  unfold wpOp
  simp only [ho]
  split
  ·rename_i hw; rw [if_pos hw] at hstep; exact .inl hstep
  ·rename_i hw; rw [if_neg hw] at hstep; exact hstep
theorem ma {id:Nat} {a:Act} {w:World} {l:List Oper} (C:(Nat→Bool)→World→Prop) (T:Nat→World→World→Prop) (hm:P.follows .mixedOrders=true) (Ai:eB l=true) (AU:fN .any l.toArray=true)
  (hC:C (fun _=>false) w.drew) (h:fb P l.toArray Q C T (fun vs=>ax vs l 0 a) 0 l []):(Code.region id l.toArray true).wp P Q a w:=by
 refine wp_region_any hm ?_
 obtain ⟨Rs,h1,h2,h3,h4⟩:=lu (ops:=l.toArray) l 0 [] sP rfl sP sP h
 obtain ⟨vs,Aj⟩ : ∃ vs:Nat→Value,∀ i o t,l[i]?=some o→o.dst=some t→vs (0+i)=a.tmps.getD t undef :=
  ⟨fun i=>match (l[i]?).bind (·.dst) with | some t=>a.tmps.getD t undef | none=>undef,fun i o t hi ht=>by simp [hi,ht]⟩
 have:=pG (P:=P) (Q:=Q) (ops:=l.toArray) (C:=C) (T:=T) (a₀:=a) Ai AU Rs (by simpa using h1) h2 h3 h4 l.toArray.size (Array.replicate l.toArray.size false) vs w.drew sP
  (jT (List.length_filter_le _ _) sP) (fun j o hj hl=>by simp [Array.getD] at hl) (by
   have e:(fun j=>(Array.replicate l.toArray.size false).getD j false)=fun _=>false:=by funext j; simp [Array.getD]
   rw [e]; exact hC) (fun j R hl=>by simp [Array.getD] at hl)
 rwa [gX vs _ 0 a (by simpa using Aj)] at this
end
def Sw (s:Nat) (C0 C1:World→Prop) (L:Nat→Bool) (w:World):Prop:=if L s=true then C1 w else C0 w
section
variable {ops:Array Oper} {s k:Nat} {C0 C1:World→Prop} {L:Nat→Bool} {w w' : World}
theorem Sw.start (h:C0 w):Sw s C0 C1 (fun _=>false) w:=by unfold Sw; rw [if_neg sP]; exact h
theorem Sw.before (hG:kM ops L k) (ha:bU .any ops ops.size s k=true) (h:Sw s C0 C1 L w):C0 w:=by
 unfold Sw at h; rwa [if_neg (by rw [hG.open_ s ha]; simp)] at h
theorem Sw.stay (hG:kM ops L k) (ha:bU .any ops ops.size s k=true) (wT:s ≠ k) (h:C0 w):Sw s C0 C1 (Listed.but L k) w:=by
 unfold Sw Listed.but; rw [if_neg (by rw [if_neg wT,hG.open_ s ha]; simp)]; exact h
theorem Sw.here (hG:kM ops L s) (h:Sw s C0 C1 L w):C0 w:=by unfold Sw at h; rwa [if_neg (by rw [hG.self]; simp)] at h
theorem Sw.turn (h:C1 w):Sw s C0 C1 (Listed.but L s) w:=by unfold Sw Listed.but; rw [if_pos (if_pos rfl)]; exact h
theorem Sw.after (hG:kM ops L k) (ha:bU .any ops ops.size k s=true) (h:Sw s C0 C1 L w):C1 w:=by unfold Sw at h; rwa [if_pos (hG.done s ha)] at h
theorem Sw.on (hG:kM ops L k) (ha:bU .any ops ops.size k s=true) (h:C1 w):Sw s C0 C1 (Listed.but L k) w:=by
 unfold Sw Listed.but; rw [if_pos (by rw [hG.done s ha]; simp)]; exact h
theorem Sw.both (wT:s ≠ k) (h0:C0 w→C0 w') (h1:C1 w→C1 w') (h:Sw s C0 C1 L w):Sw s C0 C1 (Listed.but L k) w':=by
 unfold Sw Listed.but at *
 rw [if_neg wT]
 split at h
 ·rename_i e; rw [if_pos e]; exact h1 h
 ·rename_i e; rw [if_neg e]; exact h0 h
theorem Sw.done (hL:∀ j,j < ops.size→L j=true) (hs:s < ops.size) (h:Sw s C0 C1 L w):C1 w:=by unfold Sw at h; rwa [if_pos (hL s hs)] at h
end
def cg (n lo hi:Int):Bool:=decide (lo≤n) && decide (n≤hi)
theorem bV {n lo hi:Int} : cg n lo hi=true ↔ lo≤n∧n≤hi:=by simp [cg]
theorem aK (n lo hi:Int) (w:World):Calls wH 134 #[O U n,O U lo,O U hi] w fun e w'=>e=.returned (.bool (cg n lo hi))∧w=w':=by
 go_enter Tryz.func134,Tryz.ntmps134
 go_wp2
 all_goals (go_ret; exact ⟨by simp [cg, *]; try omega,rfl⟩)
theorem aN (n lo hi:Int) (w:World):Calls wH 75 #[O U n,O U lo,O U hi] w fun e w'=>e=.returned (.bool (cg n lo hi))∧w=w':=by
 go_enter Tryz.func75,Tryz.ntmps75
 go_wp2
 all_goals (go_ret; exact ⟨by simp [cg, *]; try omega,rfl⟩)
structure qr (lo hi:Nat) (w w' : World):Prop where
 os:w'.os=w.os
 tape:w'.tape=w.tape
 output:w'.output=w.output
 size:w.heap.size≤w'.heap.size
 block:∀ k,k < w.heap.size→(k < lo ∨ hi≤k)→w'.heap[k]?=w.heap[k]?
theorem qr.refl (lo hi:Nat) (w:World):qr lo hi w w:=⟨rfl,rfl,rfl,Nat.le_refl _,fun _ _ _=>rfl⟩
theorem qr.trans {lo hi:Nat} {a b c:World} (h:qr lo hi a b) (k:qr lo hi b c):qr lo hi a c :=
 ⟨k.os.trans h.os,k.tape.trans h.tape,k.output.trans h.output,jT h.size k.size,fun i hi ho=>(k.block i (jL hi h.size) ho).trans (h.block i hi ho)⟩
theorem qr.of {lo hi:Nat} {a b:World} {row:Option Nat} (h:a.grownBy b row) (hr:∀ g,row=some g→lo≤g∧g < hi):qr lo hi a b :=
 ⟨h.os,h.tape,h.output,h.size,fun k hk ho=>h.block k hk (fun e=>by have:=hr k e.symm; omega)⟩
theorem qr.below {lo hi:Nat} {a b:World} (h:qr lo hi a b) (Ay:lo≤a.heap.size):Below lo a b :=
 ⟨h.os,h.tape,h.output,h.size,fun k hk=>h.block k oM (.inl hk)⟩
theorem qr.lies {lo hi:Nat} {a b:World} (h:qr lo hi a b) {g:Nat} {t:TypeId} {cs:List Value} (hL:ai a g t cs) (ho:g < lo ∨ hi≤g):ai b g t cs:=(h.block g hL.lt ho).trans hL
theorem qr.own {lo hi:Nat} {a b:World} (h:qr lo hi a b) {B:Nat} {t:TypeId} {k:Nat} {A:Option Addr} {n:Nat} {cs:List Value} (hO:cz a B t k A n cs) (hB:hi≤B):cz b B t k A n cs:=by
 obtain ⟨hl,hn,h0 | ⟨g',rest,hA,hg',hh⟩⟩:=hO
 ·exact ⟨hl,hn,.inl h0⟩
 ·exact ⟨hl,hn,.inr ⟨g',rest,hA,hg',h.lies hh (.inr oM)⟩⟩
def bv {α:Type} (f:α→Bool):Nat→List α→Int
 | _,[]=>-1
 | k,x :: l=>if f x then k else bv f (k+1) l
theorem mK {α:Type} (f:α→Bool):∀ (l:List α) (k:Nat),decide (0≤bv f k l)=l.any f
 | [],_=>rfl
 | x :: l,k=>by
  rw [bv,List.any_cons,← mK f l (k+1)]
  cases f x <;> simp
theorem td {α:Type} {f:α→Bool} {l:List α} {k:Nat} (h:k < l.length) (hf:f l[k]=true):bv f k (l.drop k)=k:=by
 rw [List.drop_eq_getElem_cons h,bv,hf]; rfl
theorem uH {α:Type} {f:α→Bool} {l:List α} {k:Nat} (h:k < l.length) (hf:f l[k]=false):bv f k (l.drop k)=bv f (k+1) (l.drop (k+1)):=by
 rw [List.drop_eq_getElem_cons h,bv,hf]; rfl
end Go.Proofs.YtoeoimhemojdeaaGreatDoor
